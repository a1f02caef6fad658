/- Words of 32 bits; rows inside own blocks; nil checks; an array's value by an index. No program is in sight. More steps: makes, copies; rows out of blocks, blocks as texts; what is given to a call. No program is in sight. Two rows of integers held against each other. Keys held against each other. No program is in sight. Walks by computing: what an operation gives. No program is in sight. Walks by computing: what is computed is right. No program is in sight. A region that draws its order: what holds whichever operations have been done. No program is in sight. Walks by computing: operations in or -/
import Derived.Test.YtcmmpiaogfnmoaaGreatDoorStateNewA
import Derived.Laws.MakeOwn
import Derived.Laws.CopyRow
import Derived.Laws.IdiomCopy
set_option linter.unusedSimpArgs false
set_option linter.unusedVariables false
set_option maxRecDepth 200000
set_option maxHeartbeats 6000000
namespace Go.Proofs.YtcmmpiaogfnmoaaGreatDoor
section
open Go.RowKit
def zb0 (x y : Nat) : Nat := (x + y) % 4294967296
def zcA (x y : Nat) : Nat := (x % 4294967296) ^^^ (y % 4294967296)
def zem (x y : Nat) : Nat := (x % 4294967296) &&& (y % 4294967296)
def orW (x y : Nat) : Nat := (x % 4294967296) ||| (y % 4294967296)
def zr4 (x k : Nat) : Nat := (x * 2 ^ (min k 32)) % 4294967296
def zrb (x k : Nat) : Nat := x / 2 ^ (min k 32)
abbrev u32 (x : Nat) : Value := .int .u32 ((x : Nat) : Int)
theorem zfu (z : Nat) : IntKind.u32.wrap (z : Int) = ((z % 4294967296 : Nat) : Int) := by
 have e : IntKind.u32.wrap (z : Int) = (z : Int) % 4294967296 := by simp [IntKind.wrap, IntKind.bits, IntKind.signed]
 rw [e]; omega
theorem zCR (z : Nat) : IntKind.u8.wrap (z : Int) = ((z % 256 : Nat) : Int) := by
 have e : IntKind.u8.wrap (z : Int) = (z : Int) % 256 := by simp [IntKind.wrap, IntKind.bits, IntKind.signed]
 rw [e]; omega
theorem zn3 (z : Nat) : IntKind.u64.wrap (z : Int) = ((z % 18446744073709551616 : Nat) : Int) := by
 have e : IntKind.u64.wrap (z : Int) = (z : Int) % 18446744073709551616 := by simp [IntKind.wrap, IntKind.bits, IntKind.signed]
 rw [e]; omega
theorem zCt (x : Nat) : (BitVec.ofInt 32 (x : Int)).toNat = x % 4294967296 := by
 rw [BitVec.toNat_ofInt]; omega
theorem bv8 (x : Nat) : (BitVec.ofInt 8 (x : Int)).toNat = x % 256 := by
 rw [BitVec.toNat_ofInt]; omega
theorem zCS (m n : Nat) : IntKind.u32.wrap (((BitVec.ofInt 32 (m : Int) ^^^ BitVec.ofInt 32 (n : Int)).toNat : Nat) : Int) = ((zcA m n : Nat) : Int) := by
 have h : (m % 4294967296) ^^^ (n % 4294967296) < 2 ^ 32 := Nat.xor_lt_two_pow (by omega) (by omega)
 rw [zfu, BitVec.toNat_xor, zCt, zCt, Nat.mod_eq_of_lt h]
 rfl
theorem zER (m n : Nat) : IntKind.u32.wrap (((BitVec.ofInt 32 (m : Int) &&& BitVec.ofInt 32 (n : Int)).toNat : Nat) : Int) = ((zem m n : Nat) : Int) := by
 have h : (m % 4294967296) &&& (n % 4294967296) < 2 ^ 32 := Nat.and_lt_two_pow _ (by omega)
 rw [zfu, BitVec.toNat_and, zCt, zCt, Nat.mod_eq_of_lt h]
 rfl
theorem zFX (m n : Nat) : IntKind.u32.wrap (((BitVec.ofInt 32 (m : Int) ||| BitVec.ofInt 32 (n : Int)).toNat : Nat) : Int) = ((orW m n : Nat) : Int) := by
 have h : (m % 4294967296) ||| (n % 4294967296) < 2 ^ 32 := Nat.or_lt_two_pow (by omega) (by omega)
 rw [zfu, BitVec.toNat_or, zCt, zCt, Nat.mod_eq_of_lt h]
 rfl
theorem zFY (m n : Nat) : IntKind.u8.wrap (((BitVec.ofInt 8 (m : Int) ^^^ BitVec.ofInt 8 (n : Int)).toNat : Nat) : Int) = (((m % 256) ^^^ (n % 256) : Nat) : Int) := by
 have h : (m % 256) ^^^ (n % 256) < 2 ^ 8 := Nat.xor_lt_two_pow (by omega) (by omega)
 rw [zCR, BitVec.toNat_xor, bv8, bv8, Nat.mod_eq_of_lt h]
theorem zzK (x n : Nat) : ((x : Int)).fdiv ((2 : Int) ^ n) = ((x / 2 ^ n : Nat) : Int) := by
 rw [Int.fdiv_eq_ediv_of_nonneg _ (Int.le_of_lt (Int.pow_pos (by decide)))]
 norm_cast
section
variable {P : Program} {o : Oper} {ws : World} {l : List (Nat × Value)} {S : Nat → Prop} {t u : TypeId} {x y : Operand} {m n : Nat}
theorem zeX {ad : Addr} (ho : o.op = .nilCheck x) (hx : ev l x = some (.pointer (some ad))) : PK P S ws l o (.pointer (some ad)) := fun w' _ a N E => by
 unfold execOp; rw [ho]; simp only [E.ev hx]; rfl
def arK (P : Program) (t : TypeId) : Option (Nat × Nat) := match P.underlying t with | some (.array n e) => (P.info? e).map fun i => (n, i.size) | _ => none
theorem zma {n sz : Nat} (h : arK P t = some (n, sz)) : ∃ e, P.underlying t = some (.array n e) ∧ (P.info? e).map (·.size) = some sz := by
 unfold arK at h
 split at h
 ·rename_i n' e he
  rw [Option.map_eq_some_iff] at h
  obtain ⟨i, hi, h⟩ := h
  injection h with h1 h2
  subst h1
  exact ⟨e, he, by rw [hi]; exact congrArg some h2⟩
 ·cases h
theorem zyT {sz N i : Nat} {ad : Addr} {j : Int} {k : IntKind} (ho : o.op = .indexAddr t x y) (ht : arK P t = some (N, sz)) (hx : ev l x = some (.pointer (some ad))) (hy : ev l y = some (.int k j)) (hj : j = (i : Int)) (hi : i < N) : PK P S ws l o (.pointer (some (ad.add (i * sz)))) := fun w' _ a _ E => by
 obtain ⟨e, h1, h2⟩ := zma ht
 subst hj
 have h3 : (0 : Int) ≤ (i : Int) ∧ (i : Int) < (N : Int) := by omega
 unfold execOp
 rw [ho]
 simp only [E.ev hx, E.ev hy, Instr.indexAt, asIntOf, Sem.run_bind, Sem.run_pure, Result.andThen_ok, run_underlying h1, Instr.sureAddr, zbw h2, h3, and_self, if_true, Int.toNat_natCast]
def zzL (P : Program) (t : TypeId) : Option Nat := match P.underlying t with | some (.array n e) => (match tyK P e with | some (1, false) => some n | _ => none) | _ => none
theorem zzM {n : Nat} (h : zzL P t = some n) : ∃ e, P.underlying t = some (.array n e) ∧ tyK P e = some (1, false) := by
 unfold zzL at h
 split at h
 ·rename_i n' e he
  split at h
  ·rename_i h2
   injection h with h
   subst h
   exact ⟨e, he, h2⟩
  ·cases h
 ·cases h
theorem zpf {N i : Nat} {f : Nat → Value} {j : Int} {k : IntKind} (ho : o.op = .index t x y) (ht : zzL P t = some N) (hx : ev l x = some (.agg (ca [.row N f]))) (hy : ev l y = some (.int k j)) (hj : j = (i : Int)) (hi : i < N) : PK P S ws l o (f i) := fun w' _ a _ E => by
 obtain ⟨e, h1', h2⟩ := zzM ht
 subst hj
 have h3 : (0 : Int) ≤ (i : Int) ∧ (i : Int) < (N : Int) := by omega
 obtain ⟨d, h4, h5, h6⟩ := zk6 h2
 have hc : (ca [.row N f])[i]? = some (f i) := by simp [ca, cl, Chunk.cells, hi]
 have hagg : (isAgg e).run P w' = .ok false w' := by
  unfold isAgg
  simp only [Sem.run_bind, run_underlying h4, Result.andThen_ok]
  cases d <;> first | rfl | (simp at h5; done)
 have hpart : (part e (ca [.row N f]) (i * 1)).run P w' = .ok (f i) w' := by
  unfold part
  simp only [Sem.run_bind, hagg, Result.andThen_ok, Nat.mul_one, hc]
  rfl
 unfold execOp
 rw [ho]
 simp only [E.ev hx, E.ev hy, Instr.index, asIntOf, Sem.run_bind, Sem.run_pure, Result.andThen_ok, run_underlying h1', zbw h6, h3, and_self, if_true, Int.toNat_natCast, hpart]
theorem zn4 {N sz : Nat} {ad : Addr} (ho : o.op = .slice t x none none none) (ht : arK P t = some (N, sz)) (hx : ev l x = some (.pointer (some ad))) : PK P S ws l o (.slice (some ad) N N) := fun w' _ a _ E => by
 obtain ⟨e, h1, h2⟩ := zma ht
 unfold execOp
 rw [ho]
 simp only [E.ev hx, Instr.sliceAt, Instr.sliceBounds, Instr.sureAddr, Option.map_none, Sem.run_bind, Sem.run_pure, Result.andThen_ok, run_underlying h1, zbw h2, Nat.zero_mul, zav, ite_self, Nat.sub_zero]
theorem zwx {N sz lo : Nat} {ad : Addr} {j : Int} (ho : o.op = .slice t x (some y) none none) (ht : arK P t = some (N, sz)) (hx : ev l x = some (.pointer (some ad))) (hy : ev l y = some (.int .i64 j)) (hj : j = (lo : Int)) (hlo : lo < N) : PK P S ws l o (.slice (some (ad.add (lo * sz))) (N - lo) (N - lo)) := fun w' _ a _ E => by
 obtain ⟨e, h1, h2⟩ := zma ht
 unfold execOp
 rw [ho]
 simp only [E.ev hx, E.ev hy, Instr.sliceAt, Instr.sliceBounds, Instr.sureAddr, Option.map_none, Option.map_some, Sem.run_bind, Sem.run_pure, Result.andThen_ok, run_underlying h1, zbw h2, zdd hj (show lo ≤ N by omega), if_neg (show ¬ N = lo by omega)]
end
section
variable {P : Program} {o : Oper} {a : Act} {w ws : World} {Q : Exit → Act → World → Prop} {N d : Nat} {l : List (Nat × Value)} {v : Value} {S : Nat → Prop} {K : Act → World → Prop}
 {X G : List Nat} {w0 : World} {L L' : List Res} {R : List (World → Prop)}
end
end
section
open Go.RowKit
theorem zwy (n : Nat) : madeCells #[Value.int .u8 0] n = ca [.row n fun _ => bv 0] := by
 apply Array.ext_getElem?
 intro i
 by_cases hi : i < n
 ·simp [madeCells, hi, Nat.mod_one, ca, cl, Chunk.cells, bv]
 ·rw [Array.getElem?_eq_none (by rw [size_madeCells]; omega), Array.getElem?_eq_none (by rw [zcT]; simp [zdq, Chunk.len]; omega)]
section
variable {P : Program} {o : Oper} {a : Act} {w ws : World} {Q : Exit → Act → World → Prop} {N d : Nat} {l : List (Nat × Value)} {v : Value} {S : Nat → Prop} {K : Act → World → Prop}
 {X G : List Nat} {w0 w1 : World} {L L' L1 L2 : List Res} {R R1 : List (World → Prop)} {q q1 q2 : Res}
theorem zpg {t e : TypeId} {x y : Operand} {n c : Nat} {i j : Int} (E : Env a N l) (H : Sep X G w0 w L R) (ho : o.op = .makeSlice t x y) (hT : ByteT P t e) (hx : ev l x = some (.int .i64 i)) (hy : ev l y = some (.int .i64 j)) (hi : i = (n : Int)) (hj : j = (c : Int)) (hnc : n ≤ c) (hc : c ≤ 140737488355328)
  (h : ∀ b w', Sep X G w0 w' (.blk b (ca [.row c fun _ => bv 0]) e :: L) R → Frm [] w w' → K (a.put o.dst (.slice (some ⟨b, 0, none⟩) n c)) w') : o.wp P a w K Q := by
 subst hi hj
 have hinfo := hT.info
 obtain ⟨ti, hti, hz⟩ := Option.map_eq_some_iff.1 hinfo
 simp only [Prod.mk.injEq] at hz
 obtain ⟨hz1, hz2, hz3⟩ := hz
 have hr := run_make (P := P) w t e ti _ hT.sl hti hz1 .i64 .i64 n c (by omega) (by omega) (by rw [hz3]; omega) (by omega)
 simp only [Int.toNat_natCast, hz2, Nat.mul_one] at hr
 have e1 : madeCells (Value.int .u8 0).cells c = ca [.row c fun _ => bv 0] := zwy c
 rw [e1] at hr
 have hf : Frm [] w (w.alloc (.cells (ca [.row c fun _ => bv 0]) e)) := Frm.of_below ((Below.refl _ _).alloc (jV _) _)
 unfold Oper.wp execOp
 simp only [ho, E.ev hx, E.ev hy, Sem.run_bind, hr, Result.andThen_ok, Sem.run_pure]
 exact h w.heap.size _ (H.own hf (heap_alloc_new w _) (by simp [Res.keys]) (by simp [Res.keys])) hf
theorem zph {dT sT b t off dn dc n c m : Nat} {cs cs' : List Chunk} {news : List Value} {A : Option Addr} {x y : Operand} {pa : Addr} (i : Nat) (E : Env a N l) (H : Sep X G w0 w L R) (ho : o.op = .call { callee := .builtin .copy, args := #[x, y], argTypes := #[dT, sT] })
  (hx : ev l x = some (.slice (some pa) dn dc)) (hpa : pa = ⟨b, off, none⟩) (hy : ev l y = some (.slice A n c)) (hT : elK P dT = some 1) (hi : L[i]? = some (.blk b (ca cs) t)) (hm : m = min n dn) (hnew : news.length = m) (hnil : A = none → n = 0)
  (hsrc : ∀ ad, A = some ad → ∀ j u, news[j]? = some u → w.cell? (ad.add j) = some u) (h1 : ∀ u ∈ news, u.oneCell' = true) (hcl : cl cs' = (cl cs).take off ++ news ++ (cl cs).drop (off + m)) (hfit : off + m ≤ zdq cs)
  (hL : L.set i (.blk b (ca cs') t) = L') (h : ∀ w', Sep X G w0 w' L' R → Frm [b] w w' → K (a.put o.dst (.int .i64 m)) w') : o.wp P a w K Q := by
 subst hpa
 obtain ⟨e, he, hs⟩ := zo5 hT
 have hb : w.heap[b]? = some (.cells (ca cs) t (0, 0)) := H.holds _ (List.mem_of_getElem? hi)
 have fin : ∀ w', (Builtin.copy_ #[dT, sT] o.type #[.slice (some ⟨b, off, none⟩) dn dc, .slice A n c]).run P w = .ok (goInt m) w' → w'.heap[b]? = some (.cells (ca cs') t (0, 0)) → Frm [b] w w' → o.wp P a w K Q := fun w' hr hw hf => by
  unfold Oper.wp execOp
  simp only [ho, resolve, invoke, builtin, Sem.run_bind, Sem.run_pure, Result.andThen_ok, List.map_toArray, List.map_cons, List.map_nil, E.ev hx, E.ev hy, hr]
  exact h w' (H.turnAt (q' := .blk b (ca cs') t) i hi hf hw (by simp [Res.keys]) (by simp [Res.keys]) hL) hf
 by_cases h0 : m = 0
 ·subst h0
  obtain rfl : news = [] := List.eq_nil_of_length_eq_zero hnew
  have hce : ca cs' = ca cs := by unfold ca; rw [hcl]; simp
  refine fin w ?_ (by rw [hce]; exact hb) (Frm.refl _ _)
  exact run_copy_none (P := P) w dT sT o.type e _ A dn dc n c he hs hm.symm
 ·cases A with
  | none => have := hnil rfl; omega
  | some ad =>
   have hr := run_copy_row P w dT sT o.type e b off dn dc ad n c (ca cs) t news he hs hb (by rw [hnew, hm]) (hsrc ad rfl) (by rw [zcT, hnew]; exact hfit) h1
   rw [hnew] at hr
   have e1 : ((ca cs).toList.take off ++ news ++ (ca cs).toList.drop (off + m)).toArray = ca cs' := by unfold ca; rw [hcl]
   rw [e1] at hr
   exact fin _ hr (zeQ hb) (zcc b _ w)
theorem zf0 {A : Option Addr} {c : Nat} {k : List Nat} {m : Nat} (h : TxF A c k w) : ∀ ad, A = some ad → ∀ j u, ((k.take m).map bv)[j]? = some u → w.cell? (ad.add j) = some u := fun ad hA j u hu => by
 rw [List.getElem?_map, Option.map_eq_some_iff] at hu
 obtain ⟨x, hx, rfl⟩ := hu
 exact h.at_ ad hA j x (by
  have := (List.getElem?_eq_some_iff.1 hx).1
  rw [List.length_take] at this
  rwa [List.getElem?_take_of_lt (by omega)] at hx)
theorem zwz {k m : List Nat} (h : k.length + m.length ≤ 32) : zgC (k ++ m) = (zgC k).take k.length ++ m.map bv ++ (zgC k).drop (k.length + m.length) := by
 have hl : (zgC k).length = 32 := by simp [zgC]
 have at_ : ∀ (z : List Nat) (i : Nat), i < 32 → (zgC z)[i]? = some (bv (z.getD i 0)) := fun z i hi => by simp [zgC, hi]
 apply List.ext_getElem?
 intro i
 by_cases hi : i < 32
 ·rw [at_ _ i hi]
  rcases Nat.lt_or_ge i k.length with h1 | h1
  ·rw [List.append_assoc, List.getElem?_append_left (by rw [List.length_take, hl]; omega), List.getElem?_take_of_lt h1, at_ _ i hi]
   simp [jR, List.getElem?_append_left h1]
  ·rcases Nat.lt_or_ge i (k.length + m.length) with h2 | h2
   ·rw [List.getElem?_append_left (by rw [jQ, List.length_take, hl, List.length_map]; omega), List.getElem?_append_right (by rw [List.length_take, hl]; omega), List.length_take, hl, Nat.min_eq_left (by omega), List.getElem?_map, jP (by omega)]
    simp [jR, List.getElem?_append_right h1, jP (show i - k.length < m.length by omega)]
   ·rw [List.getElem?_append_right (by rw [jQ, List.length_take, hl, List.length_map]; omega), List.getElem?_drop]
    have e1 : ((zgC k).take k.length ++ m.map bv).length = k.length + m.length := by rw [jQ, List.length_take, hl, List.length_map]; omega
    rw [e1, show k.length + m.length + (i - (k.length + m.length)) = i by omega, at_ _ i hi]
    simp [jR, List.getElem?_append_right h1, List.getElem?_eq_none h1, List.getElem?_eq_none (show m.length ≤ i - k.length by omega)]
 ·rw [List.getElem?_eq_none (by simp [zgC]; omega), List.getElem?_eq_none (by simp only [jQ, List.length_take, List.length_drop, hl, List.length_map]; omega)]
theorem Sep.rowOf {b e n c : Nat} {f : Nat → Value} (H : Sep X G w0 w (.blk b (ca [.row c f]) e :: L) R) (hn : n ≤ c) (hc : c ≤ 140737488355328) : Sep X G w0 w (.row (.slice (some ⟨b, 0, none⟩) n c) e 1 n ((List.range n).map f) :: L) R :=
 H.turn (Frm.refl _ _) ⟨by simp, .inr ⟨b, c, _, rfl, Nat.zero_le _, H.holds _ (List.mem_cons_self ..), hn, by unfold maxLen; omega, by rw [zcT]; simp [zdq, Chunk.len], by
  simp only [ca, cl, Chunk.cells, List.append_nil, Nat.mul_one]
  rw [← List.map_take, List.take_range, Nat.min_eq_left hn]⟩⟩ (fun k hk => .inl (by simpa [Res.keys, Value.ownBlock] using hk)) (by simp [Res.keys, Value.ownBlock])
theorem zer {ad : Addr} {cs : List Chunk} {k : List Nat} {c : Nat} {Y : List Nat} (h : St (AtC ad cs) w Y) (hl : cl cs = k.map bv) (hc : k.length ≤ c) (hn : k.length ≤ 140737488355328) (hb : ∀ x ∈ k, x < 256) : St (TxF (some ad) c k) w Y := fun w' hk => ⟨hc, hn, hb, fun h => (by cases h), fun ad' e i x hx => by
 obtain rfl := Option.some.inj e
 refine h w' hk i (bv x) ?_
 rw [hl, List.getElem?_map, hx]
 rfl⟩
def za1 (k : List Nat) : List Nat := (List.range 32).map fun i => k.getD i 0
theorem zpi (k : List Nat) : (za1 k).length = 32 := by simp [za1]
theorem zhR (k : List Nat) : cl [.key k] = (za1 k).map bv := by simp [cl, Chunk.cells, zgC, za1, Function.comp_def]
theorem zf1 {k : List Nat} (h : k.length = 32) : za1 k = k := by
 apply List.ext_getElem?
 intro i
 by_cases hi : i < 32
 ·simp [za1, hi, jR, jP (show i < k.length by omega)]
 ·rw [List.getElem?_eq_none (by rw [zpi]; omega), List.getElem?_eq_none (by omega)]
theorem Sep.giveA (H : Sep X G w0 w (L1 ++ L) R) : Sep (X ++ zad L) (zad L1) w w L1 R :=
 ⟨Frm.refl _ _, fun k hk => by
  rcases List.mem_append.1 hk with h | h
  ·exact jT (H.xlt k h) H.frm.size
  ·exact H.lt k (by rw [zak]; exact List.mem_append_right _ h), fun r hr => H.holds _ (List.mem_append_left _ hr), by
   have := H.apart
   rw [zak] at this
   exact (List.nodup_append.1 this).1, fun k hk => .inl hk, fun r hr => (H.facts r hr).mono fun k hk => by
   rw [zak]
   simp only [List.mem_append] at hk ⊢
   rcases hk with (h | h) | h
   ·exact .inl h
   ·exact .inr (.inr h)
   ·exact .inr (.inl h)⟩
theorem Sep.callA (H : Sep X G w0 w (L1 ++ L) R) (H1 : Sep (X ++ zad L) (zad L1) w w1 L2 R1) : Sep X G w0 w1 (L2 ++ L) (R1 ++ R) := by
 have hap : (zad L1 ++ zad L).Nodup := by rw [← zak]; exact H.apart
 have hap := List.nodup_append.1 hap
 have hs := H.frm.size
 have hm : ∀ k ∈ zad L1, k ∈ zad (L1 ++ L) := fun k hk => by rw [zak]; exact List.mem_append_left _ hk
 have hm2 : ∀ k ∈ zad L, k ∈ zad (L1 ++ L) := fun k hk => by rw [zak]; exact List.mem_append_right _ hk
 have keep : ∀ k ∈ zad L, w1.heap[k]? = w.heap[k]? := fun k hk => H1.frm.block k (H.lt k (hm2 k hk)) fun hm => hap.2.2 k hm k hk rfl
 refine ⟨H.frm.trans H1.frm fun k hk => H.mine k (hm k hk), H.xlt, fun r hr => ?_, ?_, fun k hk => ?_, fun r hr => ?_⟩
 ·rcases List.mem_append.1 hr with h | h
  ·exact H1.holds r h
  ·exact zbx (H.holds r (List.mem_append_right _ h)) fun k hk => keep k (zbL.2 ⟨r, h, hk⟩)
 ·rw [zak]
  refine List.nodup_append.2 ⟨H1.apart, hap.2.1, fun a ha b hb e => ?_⟩
  subst e
  rcases H1.mine a ha with h | h
  ·exact hap.2.2 a h a hb rfl
  ·have := H.lt a (hm2 a hb)
   omega
 ·rw [zak] at hk
  rcases List.mem_append.1 hk with h | h
  ·rcases H1.mine k h with h2 | h2
   ·exact H.mine k (hm k h2)
   ·exact .inr (jU hs h2)
  ·exact H.mine k (hm2 k h)
 ·rw [zak]
  rcases List.mem_append.1 hr with h | h
  ·refine (H1.facts r h).mono fun k hk => ?_
   simp only [List.mem_append] at hk ⊢
   rcases hk with h3 | h3 | h3
   ·exact .inl (.inl h3)
   ·exact .inr h3
   ·exact .inl (.inr h3)
  ·refine (H.facts r h).step H1.frm.size (fun k hk hn => H1.frm.block k hk fun hmm => hn (List.mem_append_right _ (hm k hmm))) fun k hk => ?_
   simp only [List.mem_append] at hk
   rcases hk with h3 | h3 | h3
   ·exact .inl (List.mem_append_left _ h3)
   ·rcases H1.mine k h3 with h4 | h4
    ·exact .inl (List.mem_append_right _ (hm k h4))
    ·exact .inr h4
   ·exact .inl (List.mem_append_right _ (hm2 k h3))
theorem Sep.freezeX (h : Sep X G w0 w (q :: L) R) (hG : ∀ k ∈ q.keys, k ∉ X) : Sep X G w0 w L ((fun w => q.holds w) :: R) := by
 refine h.popL.know fun w' hk => zbx (h.holds q (List.mem_cons_self ..)) fun k hq => hk k (zfV (h.holds q (List.mem_cons_self ..)) k hq) fun hm => ?_
 rcases List.mem_append.1 hm with h1 | h1
 ·exact hG k hq h1
 ·exact (List.nodup_append.1 h.apart).2.2 k hq k h1 rfl
theorem Sep.rowTx {e c : Nat} {A : Option Addr} {k : List Nat} (H : Sep X G w0 w (.row (.slice A k.length c) e 1 k.length (k.map bv) :: L) R) (hX : ∀ i ∈ (Res.row (.slice A k.length c) e 1 k.length (k.map bv)).keys, i ∉ X) (hl : k.length ≤ 140737488355328) (hb : ∀ x ∈ k, x < 256) : Sep X G w0 w L (TxF A c k :: R) := by
 have hf := H.freezeX hX
 obtain ⟨A', c', h1, h2⟩ := zzE (e := e) (v := .slice A k.length c) (hf.facts _ (List.mem_cons_self ..)) hl hb
 injection h1 with h1 _ h3
 subst h1 h3
 exact hf.pop.know h2
theorem Sep.new_x (H : Sep X [] w0 w (q :: L) R) : ∀ k ∈ q.keys, k ∉ X := fun k hk hm => by
 have := H.xlt k hm
 rcases H.mine k (List.mem_append_left _ hk) with h2 | h2
 ·cases h2
 ·omega
theorem zn5 {e : TypeId} {k : List Nat} {w' : World} (hX : ∀ k ∈ X, k < w0.heap.size) (h : Own w' w0.heap.size e v k) (hb : Below w0.heap.size w0 w') : ∃ A c, v = .slice A k.length c ∧ Sep X [] w0 w' [.row (.slice A k.length c) e 1 k.length (k.map bv)] [] := by
 have hq : w'.ownsRow 0 e 1 v k.length (k.map bv) := h.mono (Nat.zero_le _)
 obtain ⟨A, c, hv, _⟩ := h.txt
 subst hv
 refine ⟨A, c, rfl, (Sep.start hX (R := []) fun _ h => by cases h).own (Frm.of_below hb) hq (fun i hi => ?_) ?_⟩
 ·simp only [Res.keys, Option.mem_toList] at hi
  exact (h.lt i hi).1
 ·cases hq : (Value.slice A k.length c).ownBlock <;> simp [Res.keys, hq]
end
end
section
open Go.RowKit
def ziZ (P : Program) (t : TypeId) (k : IntKind) (n : Nat) : Prop := ∃ e, P.underlying t = some (.array n e) ∧ P.underlying e = some (.int k) ∧ (P.info? e).map (·.size) = some 1 ∧ P.eqGuardType P.depth t = false
section
variable {P : Program} {ops : Array Oper} {rest : List Oper} {o : Oper} {a : Act} {w : World} {Q : Exit → Act → World → Prop}
theorem zmb {e : TypeId} {k : IntKind} {n : Nat} {f : Nat → Int} {i : Nat} (he : P.underlying e = some (.int k)) (hi : i < n) : (part e (arr k n f) i).run P w = .ok (.int k (f i)) w := by
 unfold part isAgg
 simp only [Sem.run_bind, run_underlying he, Result.andThen_ok, Sem.run_pure]
 simp only [Bool.false_eq_true, if_false, zzB _ _ _ _ hi]
 rfl
def zes (f g : Nat → Int) : Nat → Nat → Bool
 | 0, _ => true
 | m + 1, s => decide (f s = g s) && zes f g m (s + 1)
theorem zeY (f g : Nat → Int) : ∀ m s, zes f g m s = true ↔ ∀ i, i < m → f (s + i) = g (s + i)
 | 0, s => by simp [zes]
 | m + 1, s => by
  simp only [zes, Bool.and_eq_true, jS, zeY f g m (s + 1)]
  constructor
  ·rintro ⟨h0, h⟩ i hi
   cases i with
   | zero => simpa using h0
   | succ i => have := h i (by omega); rwa [show s + 1 + i = s + (i + 1) by omega] at this
  ·intro h
   exact ⟨by simpa using h 0 (by omega), fun i hi => by have := h (i + 1) (by omega); rwa [show s + (i + 1) = s + 1 + i by omega] at this⟩
theorem zde {d t e : TypeId} {k : IntKind} {n : Nat} {f g : Nat → Int} (ht : P.underlying t = some (.array n e)) (he : P.underlying e = some (.int k)) (hs : (P.info? e).map (·.size) = some 1) :
  (Op.equalIn (d + 2) t (.agg (arr k n f)) (.agg (arr k n g))).run P w = .ok (zes f g n 0) w := by
 have hsz : (sizeOf e).run P w = .ok 1 w := by
  cases hq : P.info? e with
  | none => simp [hq] at hs
  | some i =>
   have : i.size = 1 := by simpa [hq] using hs
   simp [sizeOf, typeInfo, hq, this]
 obtain ⟨D, hD⟩ : ∃ D, D = d + 1 := ⟨_, rfl⟩
 rw [show d + 2 = D + 1 from by rw [hD]]
 simp only [Op.equalIn, Sem.run_bind, run_underlying ht, Result.andThen_ok, hsz]
 rw [Std.Legacy.Range.forIn_eq_forIn_range']
 simp only [Std.Legacy.Range.size, Nat.sub_zero, Nat.add_sub_cancel, Nat.div_one]
 have key : ∀ m s, s + m ≤ n → ((forIn (List.range' s m) (none, ()) fun i (_ : Option Bool × Unit) => do
   let x ← part e (arr k n f) (i * 1)
   let y ← part e (arr k n g) (i * 1)
   let r ← Op.equalIn D e x y
   if (!r) = true then pure (ForInStep.done (some false, ())) else pure (ForInStep.yield (none, ())) : Sem (Option Bool × Unit))).run P w = .ok (if zes f g m s then none else some false, ()) w := by
  intro m
  induction m with
  | zero => intro s _; simp [zes]
  | succ m ih =>
   intro s hs
   rw [List.range'_succ, List.forIn_cons]
   simp only [Sem.run_bind, Nat.mul_one, zmb he (show s < n by omega), Result.andThen_ok, hD, run_equalIn_int w d e k k _ _ he]
   by_cases hfg : f s = g s
   ·simp [hfg, zes]
    have := ih (s + 1) (by omega)
    rw [hD] at this
    simpa using this
   ·simp [hfg, zes]
 rw [key n 0 (by omega)]
 cases h : zes f g n 0 <;> simp
theorem zmc {op : BinOp} {t u : TypeId} {x y : Operand} {k : IntKind} {n : Nat} {f g : Nat → Int} (ho : o.op = .binOp .eql t x y u) (hT : ziZ P t k n) (hx : a.eval x = .agg (arr k n f)) (hy : a.eval y = .agg (arr k n g)) :
  (execOp a.eval o).run P w = .ok (.value (.bool (zes f g n 0))) w := by
 obtain ⟨e, h1, h2, h3, h4⟩ := hT
 unfold execOp
 simp only [ho, hx, hy, Sem.run_bind, run_eqGuard_agg w _ t x y _ _ h4, Result.andThen_ok, run_eql_struct, zde (d := 9998) h1 h2 h3, Sem.run_pure]
theorem zmd {op : BinOp} {t u : TypeId} {x y : Operand} {k : IntKind} {n : Nat} {f g : Nat → Int} (ho : o.op = .binOp .neq t x y u) (hT : ziZ P t k n) (hx : a.eval x = .agg (arr k n f)) (hy : a.eval y = .agg (arr k n g)) :
  (execOp a.eval o).run P w = .ok (.value (.bool (!zes f g n 0))) w := by
 obtain ⟨e, h1, h2, h3, h4⟩ := hT
 unfold execOp
 simp only [ho, hx, hy, Sem.run_bind, run_eqGuard_agg w _ t x y _ _ h4, Result.andThen_ok, run_neq_struct, zde (d := 9998) h1 h2 h3, Sem.run_pure]
end
end
section
open Go.RowKit
theorem zjS (k : List Nat) (j : Nat) (hj : j < 32) : (za1 k)[j]? = some (k.getD j 0) := by
 unfold za1
 rw [List.getElem?_map, List.getElem?_range hj]
 rfl
theorem zjT {k m : List Nat} : za1 k = za1 m ↔ ∀ i, i < 32 → k.getD i 0 = m.getD i 0 := by
 constructor
 ·intro h i hi
  have h1 := zjS k i hi
  rw [h, zjS m i hi] at h1
  exact (Option.some.inj h1).symm
 ·intro h
  unfold za1
  exact List.map_congr_left fun i hi => h i (List.mem_range.1 hi)
theorem zCT (n : Nat) (f : Nat → Nat) : arr .u8 n (fun i => ((f i : Nat) : Int)) = ca [.row n fun i => bv (f i)] := by simp [arr, zv4, ca, cl, Chunk.cells, bv]
theorem zb1 {x : List Nat} (hx : ∀ z ∈ x, z < 256) (i : Nat) : x.getD i 0 < 256 := by
 rw [jR]
 cases h : x[i]? with
 | none => simp
 | some z => exact hx z (List.mem_of_getElem? h)
theorem zcf (k : List Nat) : ca [.key k] = arr .u8 32 fun i => ((k.getD i 0 : Nat) : Int) := by
 rw [zCT]
 simp only [ca]
 congr 1
section
variable {P : Program} {o : Oper} {a : Act} {w ws : World} {Q : Exit → Act → World → Prop} {N d : Nat} {l : List (Nat × Value)} {v : Value} {S : Nat → Prop} {K : Act → World → Prop} {x y : Operand}
 {X G : List Nat} {w0 : World} {L L' : List Res} {R : List (World → Prop)}
theorem zCU {t u : TypeId} {k m : List Nat} (ho : o.op = .binOp .eql t x y u) (hT : ziZ P t .u8 32) (hx : ev l x = some (.agg (ca [.key k]))) (hy : ev l y = some (.agg (ca [.key m]))) : PK P S ws l o (.bool (decide (za1 k = za1 m))) := fun w' _ a N E => by
 have h := zmc (w := w') (op := .eql) ho hT ((E.ev hx).trans (by rw [zcf])) ((E.ev hy).trans (by rw [zcf]))
 rw [h]
 congr 3
 rw [Bool.eq_iff_iff, decide_eq_true_iff, zjT, zeY]
 constructor
 ·intro hs i hi; have := hs i hi; rw [Nat.zero_add] at this; omega
 ·intro hs i hi; rw [Nat.zero_add, hs i hi]
theorem zCV {t u : TypeId} {k m : List Nat} (ho : o.op = .binOp .neq t x y u) (hT : ziZ P t .u8 32) (hx : ev l x = some (.agg (ca [.key k]))) (hy : ev l y = some (.agg (ca [.key m]))) : PK P S ws l o (.bool (!decide (za1 k = za1 m))) := fun w' _ a N E => by
 have h := zmd (w := w') (op := .neq) ho hT ((E.ev hx).trans (by rw [zcf])) ((E.ev hy).trans (by rw [zcf]))
 rw [h]
 congr 4
 rw [Bool.eq_iff_iff, decide_eq_true_iff, zjT, zeY]
 constructor
 ·intro hs i hi; have := hs i hi; rw [Nat.zero_add] at this; omega
 ·intro hs i hi; rw [Nat.zero_add, hs i hi]
theorem zzN {t n' sz n c : Nat} {A : Option Addr} (ho : o.op = .sliceToArrayPointer t x) (ht : arK P t = some (n', sz)) (hx : ev l x = some (.slice A n c)) (hn : n' ≤ n) : PK P S ws l o (.pointer A) := fun w' _ a _ E => by
 obtain ⟨e, h1, h2⟩ := zma ht
 unfold execOp
 rw [ho]
 simp only [E.ev hx, Instr.arrayAt, Sem.run_bind, run_underlying h1, Result.andThen_ok]
 rw [if_neg (by omega)]
 rfl
end
section
variable {P : Program} {o : Oper} {ws : World} {l : List (Nat × Value)} {S : Nat → Prop}
theorem zf2 {ty : TypeId} {parts : Array (Nat × Operand)} {z r : List Chunk} {n sz : Nat} (cs : List Chunk) (ho : o.op = .build ty parts) (ht : arK P ty = some (n, sz)) (hz : zep P ty = some (ca z)) (hp : znY (fun i => some (i * sz, sz)) l parts.toList z r) (hr : ca r = ca cs) : PK P S ws l o (.agg (ca cs)) := fun w' _ a N E => by
 obtain ⟨i, zv, h1, h2, h3⟩ := zeS hz
 obtain ⟨e, h4, h5⟩ := zma ht
 obtain ⟨ie, h6, h7⟩ := Option.map_eq_some_iff.1 h5
 have hb : P.built ty (parts.toList.map fun (i, x) => (i, a.eval x)) = some (ca cs) := by
  unfold Program.built
  simp only [h1, h4, h2, h6, h3, h7]
  rw [← hr]
  exact zeT E _ _ _ hp
 unfold execOp
 rw [ho]
 simp only [Sem.run_bind]
 rw [run_build w' ty (parts.map fun (i, x) => (i, a.eval x)) _ (by rw [Array.toList_map]; exact hb)]
 rfl
theorem zhS {ty : TypeId} {parts : Array (Nat × Operand)} {z r : List Chunk} {n : Nat} (cs : List Chunk) (ho : o.op = .build ty parts) (ht : arK P ty = some (n, 1)) (hz : zep P ty = some (ca z)) (hp : znY (fun i => some (i * 1, 1)) l parts.toList z r) (hr : ca r = ca cs) : PK P S ws l o (.agg (ca cs)) := zf2 cs ho ht hz hp hr
end
end
section
open Go.RowKit
inductive TK where
 | int (k : IntKind)
 | st (fs : List (Nat × Nat))
 | arr (n sz : Nat)
 | key
 | sl (e sz : Nat)
 | oth
structure TE where
 sz : Nat
 ag : Bool
 z : List SC
 k : TK
def FZ (P : Program) (t : TypeId) : Nat → List (Nat × Nat) → Prop
 | _, [] => True
 | i, x :: xs => zg1 P t i = some x ∧ FZ P t (i + 1) xs
def OkK (P : Program) (t : TypeId) : TK → Prop
 | .int k => zCK P t = some k
 | .st fs => zjJ P t = true ∧ FZ P t 0 fs
 | .arr n sz => arK P t = some (n, sz) ∧ (sz = 1 → zzL P t = some n)
 | .key => ziZ P t .u8 32 ∧ arK P t = some (32, 1) ∧ zzL P t = some 32
 | .sl e sz => P.underlying t = some (.slice e) ∧ zdr P e = some sz
 | .oth => True
def OkT (P : Program) (t : TypeId) (e : TE) : Prop := tyK P t = some (e.sz, e.ag) ∧ (∀ h, zep P t = some (ca (zaD h e.z))) ∧ OkK P t e.k
abbrev Tab := List (Nat × TE)
def zbC (P : Program) : Tab → Prop
 | [] => True
 | (t, e) :: T => OkT P t e ∧ zbC P T
def zjU : Tab → Nat → Option TE
 | [], _ => none
 | (t, e) :: T, i => bif Nat.beq t i then some e else zjU T i
section
variable {P : Program} {T : Tab} {t i : Nat} {e : TE} {x : Nat × Nat} {xs : List (Nat × Nat)}
theorem Tc (h1 : tyK P t = some (e.sz, e.ag)) (h2 : (∀ h, zep P t = some (ca (zaD h e.z)))) (h3 : OkK P t e.k) (h : zbC P T) : zbC P ((t, e) :: T) := ⟨⟨h1, h2, h3⟩, h⟩
theorem FZc (h1 : zg1 P t i = some x) (h : FZ P t (i + 1) xs) : FZ P t i (x :: xs) := ⟨h1, h⟩
theorem zfj {k : IntKind} (h : zCK P t = some k) : OkK P t (.int k) := h
theorem zdO {fs : List (Nat × Nat)} (h : zjJ P t = true) (h2 : FZ P t 0 fs) : OkK P t (.st fs) := ⟨h, h2⟩
theorem zf3 {n : Nat} (h : arK P t = some (n, 1)) (h2 : zzL P t = some n) : OkK P t (.arr n 1) := ⟨h, fun _ => h2⟩
theorem zES {n sz : Nat} (h : arK P t = some (n, sz)) (h1 : sz ≠ 1) : OkK P t (.arr n sz) := ⟨h, fun e => absurd e h1⟩
theorem zCW {e : Nat} (h1 : P.underlying t = some (.array 32 e)) (h2 : P.underlying e = some (.int .u8)) (h3 : (P.info? e).map (·.size) = some 1) (h4 : P.eqGuardType P.depth t = false) (h : arK P t = some (32, 1)) (h5 : zzL P t = some 32) : OkK P t .key := ⟨⟨e, h1, h2, h3, h4⟩, h, h5⟩
theorem zv8 {e sz : Nat} (h : P.underlying t = some (.slice e)) (h2 : zdr P e = some sz) : OkK P t (.sl e sz) := ⟨h, h2⟩
end
theorem zbC.get {P : Program} : ∀ {T : Tab} {t : Nat} {e : TE}, zbC P T → zjU T t = some e → OkT P t e
 | [], _, _, _, h => by cases h
 | (t', e') :: T, t, e, hT, h => by
  unfold zjU at h
  cases hb : Nat.beq t' t with
  | true =>
   rw [hb] at h
   have := Nat.eq_of_beq_eq_true hb
   subst this
   rw [← Option.some.inj h]
   exact hT.1
  | false => rw [hb] at h; exact zbC.get hT.2 h
theorem FZ.get {P : Program} {t : TypeId} : ∀ {fs : List (Nat × Nat)} {k i : Nat} {x : Nat × Nat}, FZ P t k fs → fs[i]? = some x → zg1 P t (k + i) = some x
 | [], k, i, x, _, h => by simp at h
 | y :: fs, k, 0, x, hf, h => by rw [jD] at h; rw [← Option.some.inj h]; exact hf.1
 | y :: fs, k, i + 1, x, hf, h => by
  rw [jE] at h
  have := FZ.get hf.2 h
  rwa [show k + 1 + i = k + (i + 1) by omega] at this
theorem zjV {P : Program} {t n : Nat} {b : Bool} (h : tyK P t = some (n, b)) : zdr P t = some n := by
 obtain ⟨_, _, _, h3⟩ := zk6 h
 exact h3
theorem zsx {P : Program} {t f off sz : Nat} (h : zg1 P t f = some (off, sz)) (h0 : sz ≠ 0) : zo4 P t f = some off := by
 unfold zg1 at h
 cases hu : P.underlying t with
 | none => rw [hu] at h; cases h
 | some d =>
  rw [hu] at h
  cases d with
  | struct fs =>
   simp only at h
   cases hf : fs[f]? with
   | none => rw [hf] at h; cases h
   | some fd =>
    rw [hf] at h
    obtain ⟨i, hi, he⟩ := Option.map_eq_some_iff.1 h
    injection he with h1 h2
    unfold zo4
    simp only [hu, hf, hi]
    rw [if_neg (by omega), h1]
  | _ => cases h
def szT (T : Tab) (t : Nat) : Option (Nat × Bool) := match zjU T t with | some ⟨sz, ag, _, _⟩ => some (sz, ag) | none => none
def kT (T : Tab) (t : Nat) : TK := match zjU T t with | some ⟨_, _, _, k⟩ => k | none => .oth
theorem zfn {P : Program} {T : Tab} (hT : zbC P T) {t : Nat} {x : Nat × Bool} (h : szT T t = some x) : tyK P t = some x := by
 unfold szT at h
 cases hq : zjU T t with
 | none => rw [hq] at h; cases h
 | some e => rw [hq] at h; rw [← Option.some.inj h]; exact (hT.get hq).1
theorem zhT {P : Program} {T : Tab} (hT : zbC P T) (t : Nat) : OkK P t (kT T t) := by
 unfold kT
 cases hq : zjU T t with
 | none => trivial
 | some e => exact (hT.get hq).2.2
def zT (T : Tab) (t : Nat) : Option (List SC) := match zjU T t with | some ⟨_, _, z, _⟩ => some z | none => none
theorem zrc {P : Program} {T : Tab} (hT : zbC P T) {t : Nat} {z : List SC} (h : zT T t = some z) (hn : Hn) : zep P t = some (ca (zaD hn z)) := by
 unfold zT at h
 cases hq : zjU T t with
 | none => rw [hq] at h; cases h
 | some e => rw [hq] at h; rw [← Option.some.inj h]; exact (hT.get hq).2.1 hn
def zam (k : IntKind) (z : Int) : SV := .a (.s (.p (.v (.int k z))))
def za4 (b : Bool) : SV := .a (.s (.p (.v (.bool b))))
def zsy (ad : Addr) : SV := .a (.s (.p (.v (.pointer (some ad)))))
def atS (i off : Nat) : SV := .a (.s (.p (.at_ i off)))
def hpS (i j sz off : Nat) : SV := .a (.s (.p (.hp i j sz off)))
def apS (i off j sz : Nat) : SV := .a (.s (.p (.ap i off j sz)))
def slS (i off n c : Nat) : SV := .a (.s (.p (.sl i off n c)))
def asBool : Option SV → Option Bool
 | some (.a (.s (.p (.v (.bool b))))) => some b
 | _ => none
def zi0 : Option SV → Option (IntKind × Int)
 | some (.a (.s (.p (.v (.int k z))))) => some (k, z)
 | _ => none
inductive Pl where
 | own (i off : Nat)
 | ptr (ad : Addr)
 | hp (i j sz off : Nat)
def Pl.sv : Pl → SV
 | .own i off => atS i off
 | .ptr ad => zsy ad
 | .hp i j sz off => hpS i j sz off
def zn6 : Option SV → Option Pl
 | some (.a (.s (.p (.at_ i off)))) => some (.own i off)
 | some (.a (.s (.p (.v (.pointer (some ad)))))) => some (.ptr ad)
 | some (.a (.s (.p (.hp i j sz off)))) => some (.hp i j sz off)
 | _ => none
inductive Sl where
 | own (i off n c : Nat)
 | sl (A : Option Addr) (n c : Nat)
 | hd (i n : Nat)
def zEx : Option SV → Option Sl
 | some (.a (.s (.p (.sl i off n c)))) => some (.own i off n c)
 | some (.a (.s (.p (.v (.slice A n c))))) => some (.sl A n c)
 | some (.a (.s (.p (.hd i n)))) => some (.hd i n)
 | _ => none
def Sl.sv : Sl → SV
 | .own i off n c => slS i off n c
 | .sl A n c => .a (.s (.p (.v (.slice A n c))))
 | .hd i n => .a (.s (.p (.hd i n)))
def Sl.len : Sl → Nat
 | .own _ _ n _ => n
 | .sl _ n _ => n
 | .hd _ n => n
def zwA : Option SV → Option (List Nat)
 | some (.a (.agg [.key k])) => some k
 | _ => none
def ikB (a b : IntKind) : Bool := decide (a = b)
def zCX : List SA → Nat → Option SA
 | [], _ => none
 | v :: _, 0 => some v
 | _ :: vs, i + 1 => zCX vs i
def zzO : Option SV → Option (List SA)
 | some (.tup xs) => some xs
 | _ => none
def asP : Option SV → Option SP
 | some (.a (.s (.p x))) => some x
 | _ => none
def zCu (l : List (Nat × SV)) : List Operand → Option (List SP)
 | [] => some []
 | x :: xs => match asP (evS l x) with
  | some v => match zCu l xs with
   | some vs => some (v :: vs)
   | none => none
  | none => none
def okS : SS → Bool
 | .p (.v x) => x.oneCell'
 | _ => true
def zf4 : Option SV → Option (List SC)
 | some (.a (.s x)) => bif okS x then some [.one x] else none
 | some (.a (.agg cs)) => some cs
 | _ => none
section
variable {h : Hn} {s : Option SV} {l : List (Nat × SV)}
theorem zet {b : Bool} (e : asBool s = some b) : s = some (za4 b) := by
 unfold asBool at e; split at e
 ·rw [← Option.some.inj e]; rfl
 ·cases e
theorem zcn {k : IntKind} {z : Int} (e : zi0 s = some (k, z)) : s = some (zam k z) := by
 unfold zi0 at e; split at e
 ·injection e with e; injection e with e1 e2; rw [← e1, ← e2]; rfl
 ·cases e
theorem zby {p : Pl} (e : zn6 s = some p) : s = some p.sv := by
 unfold zn6 at e; split at e
 ·rw [← Option.some.inj e]; rfl
 ·rw [← Option.some.inj e]; rfl
 ·rw [← Option.some.inj e]; rfl
 ·cases e
theorem zjW {p : Sl} (e : zEx s = some p) : s = some p.sv := by
 unfold zEx at e; split at e
 ·rw [← Option.some.inj e]; rfl
 ·rw [← Option.some.inj e]; rfl
 ·rw [← Option.some.inj e]; rfl
 ·cases e
theorem zpj {k : List Nat} (e : zwA s = some k) : s = some (.a (.agg [.key k])) := by
 unfold zwA at e; split at e
 ·rw [← Option.some.inj e]
 ·cases e
theorem zwB {xs : List SA} (e : zzO s = some xs) : s = some (.tup xs) := by
 unfold zzO at e; split at e
 ·rw [← Option.some.inj e]
 ·cases e
theorem zCY {x : SP} (e : asP s = some x) : s = some (.a (.s (.p x))) := by
 unfold asP at e; split at e
 ·rw [← Option.some.inj e]
 ·cases e
theorem zsz (h : Hn) : ∀ (xs : List SA) (i : Nat) (x : SA), zCX xs i = some x → zv5 (zjN h xs) i = some (x.den h)
 | [], i, x, e => by cases e
 | y :: xs, 0, x, e => by rw [zCX] at e; rw [zjN, zv5, Option.some.inj e]
 | y :: xs, i + 1, x, e => by rw [zCX] at e; rw [zjN, zv5]; exact zsz h xs i x e
theorem zn7 : ∀ {xs : List Operand} {vs : List SP}, zCu l xs = some vs → evs (zcd h l) xs = some (zhh h vs)
 | [], vs, e => by rw [← Option.some.inj e]; rfl
 | x :: xs, vs, e => by
  unfold zCu at e
  cases h1 : asP (evS l x) with
  | none => rw [h1] at e; cases e
  | some v =>
   cases h2 : zCu l xs with
   | none => rw [h1, h2] at e; cases e
   | some us =>
    rw [h1, h2] at e
    rw [← Option.some.inj e]
    unfold evs
    rw [zaf (zCY h1), zn7 h2]
    rfl
theorem zn8 {x : SS} (e : okS x = true) : (x.den h).oneCell' = true := by
 cases x with
 | p x => cases x with
  | v x => exact e
  | _ => rfl
 | fn f fs cs => rfl
theorem zme {v : Value} (e : v.oneCell' = true) : v.cells = #[v] := by cases v <;> first | rfl | cases e
theorem zeu {x : SV} {cs : List SC} (e : zf4 (some x) = some cs) : (x.den h).cells = ca (zaD h cs) := by
 unfold zf4 at e; split at e
 ·rename_i y hy
  injection hy with hy
  subst hy
  cases hb : okS y with
  | false => rw [hb] at e; cases e
  | true =>
   rw [hb] at e
   rw [← Option.some.inj e]
   show (y.den h).cells = _
   rw [zme (zn8 hb)]
   rfl
 ·rename_i c hc
  injection hc with hc
  subst hc
  rw [← Option.some.inj e]
  rfl
 ·cases e
end
def zmf (l : List (Nat × SV)) (fs : Nat → Option (Nat × Nat)) : List (Nat × Operand) → List SC → Option (List SC)
 | [], z => some z
 | (i, x) :: ps, z => match fs i with
  | some (q1, q2) => match zf4 (evS l x) with
   | some cs => bif zfi cs q2 then (match zr3 z q1 q2 cs with
    | some z' => zmf l fs ps z'
    | none => none) else none
   | none => none
  | none => none
theorem zf5 {h : Hn} {l : List (Nat × SV)} {fs place : Nat → Option (Nat × Nat)} (hp : ∀ i x, fs i = some x → place i = some x) : ∀ {ps : List (Nat × Operand)} {z r : List SC}, zmf l fs ps z = some r → znY place (zcd h l) ps (zaD h z) (zaD h r)
 | [], z, r, e => by rw [zmf] at e; rw [Option.some.inj e]; rfl
 | (i, x) :: ps, z, r, e => by
  unfold zmf at e
  split at e
  ·rename_i q1 q2 hq
   split at e
   ·rename_i cs hcs
    cases hb : zfi cs q2 with
    | false => rw [hb] at e; cases e
    | true =>
     rw [hb] at e
     simp only [cond_true] at e
     split at e
     ·rename_i z' hz
      cases hv : evS l x with
      | none => simp only [hv] at hcs; cases hcs
      | some v =>
       simp only [hv] at hcs
       refine ⟨v.den h, zaD h cs, q1, zaD h z', zaf hv, zeu hcs, ?_, zeW h z q1 q2 cs z' (zcG hb) hz, zf5 hp e⟩
       rw [zbf, zcG hb]
       exact hp _ _ hq
     ·cases e
   ·cases e
  ·cases e
def zv9 : Nat → List SC → List SC
 | 0, _ => []
 | n + 1, z => z ++ zv9 n z
theorem zsA (h : Hn) (z : List SC) : ∀ (n j : Nat), j < n * zfh z → (cl (zaD h (zv9 n z)))[j]? = (cl (zaD h z))[j % zfh z]?
 | 0, j, hj => by omega
 | n + 1, j, hj => by
  have hl : (cl (zaD h z)).length = zfh z := by rw [za6, zbf]
  rw [zv9, zhr, zr9]
  by_cases hlt : j < zfh z
  ·rw [List.getElem?_append_left (by omega), Nat.mod_eq_of_lt hlt]
  ·rw [Nat.succ_mul] at hj
   have e : j % zfh z = (j - zfh z) % zfh z := Nat.mod_eq_sub_mod (by omega)
   rw [List.getElem?_append_right (by omega), hl, zsA h z n (j - zfh z) (by omega), e]
theorem zpk : ∀ (n : Nat) (z : List SC), zfh (zv9 n z) = n * zfh z
 | 0, z => by simp [zv9, zfh]
 | n + 1, z => by
  have : ∀ (a b : List SC), zfh (a ++ b) = zfh a + zfh b := fun a b => by
   have h : Hn := ⟨fun _ => 0, fun _ => (none, 0), fun _ _ => []⟩
   rw [← zbf h, ← zbf h, ← zbf h, zhr, zwm]
  rw [zv9, this, zpk n z, Nat.succ_mul]; omega
theorem zwC {P : Program} {e n sz : Nat} {z : List SC} {h : Hn} (hz : zep P e = some (ca (zaD h z))) (hs : zfh z = sz) : ((zep P e).map fun c => (Array.range (n * sz)).map (c[· % c.size]!)) = some (ca (zaD h (zv9 n z))) := by
 rw [hz, Option.map_some]
 congr 1
 have hsz : (ca (zaD h z)).size = sz := by rw [zcT, zbf, hs]
 apply Array.ext_getElem?
 intro j
 rw [hsz]
 by_cases hj : j < n * sz
 ·have h1 := zsA h z n j (by rw [hs]; exact hj)
  have hmod : j % sz < sz := Nat.mod_lt _ (Nat.pos_of_ne_zero fun h0 => by rw [h0] at hj; omega)
  have h2 : (ca (zaD h (zv9 n z)))[j]? = (cl (zaD h (zv9 n z)))[j]? := by simp [ca]
  rw [h2, h1, hs]
  have h3 : j % sz < (cl (zaD h z)).length := by rw [za6, zbf, hs]; exact hmod
  simp [hj, ca, h3]
 ·rw [Array.getElem?_eq_none (by simp; omega), Array.getElem?_eq_none (by rw [zcT, zbf, zpk, hs]; omega)]
def zfv (P : Program) (N k : Nat) (l : List (Nat × SV)) (m : MB) (R : List SF) (o : Oper) (sv : SV) (rs : List RB) (Rs : List SF) : Prop :=
 ∀ (Q : Exit → Act → World → Prop) (h : Hn) (X : List Nat) (a : Act) (w : World), Env a N (zcd h l) → Sp X w (zae h [] m) (zaT h R) → ∀ Kk : Act → World → Prop,
  (∀ h1 w', (∀ i, i < k ∨ k + rs.length ≤ i → h1.b i = h.b i ∧ h1.r i = h.r i ∧ h1.q i = h.q i) → Frm [] w w' → Sep (X ++ zad (zae h [] m)) [] w w' (zdN h1 k rs) (zaT h1 Rs) → Kk (a.put o.dst (sv.den h1)) w') → o.wp P a w Kk Q
def zfk (P : Program) (N : Nat) (l : List (Nat × SV)) (m : MB) (R : List SF) (o : Oper) (sv : SV) : Prop :=
 ∀ (h : Hn) (X : List Nat) (a : Act) (w : World), Env a N (zcd h l) → Sp X w (zae h [] m) (zaT h R) → (execOp a.eval o).run P w = .ok (.value (sv.den h)) w
section
variable {P : Program} {T : Tab} {N k : Nat} {l : List (Nat × SV)} {m : MB} {R Rs : List SF} {o : Oper} {sv : SV} {rs : List RB}
theorem Sep.none_ {X : List Nat} {w : World} (hX : ∀ k ∈ X, k < w.heap.size) : Sep X [] w w [] [] := Sep.start hX (fun _ h => by cases h)
theorem zdS (hp : zfk P N l m R o sv) : zfv P N k l m R o sv [] [] := fun Q h X a w E H Kk hK => by
 unfold Oper.wp
 rw [hp h X a w E H]
 exact hK h w (fun _ _ => ⟨rfl, rfl, rfl⟩) (Frm.refl _ _) (Sep.none_ H.xk)
theorem zsB (hp : ∀ (h : Hn) (w : World), PK P zgD w (zcd h l) o (sv.den h)) : zfk P N l m R o sv := fun h X a w E _ => hp h w w (CanB.Keep.refl _ _) a N E
theorem zwD {cs : List SC} {t : Nat} (sv : SV) (hr : ∀ (h : Hn) (a : Act) (w : World), Env a N (zcd h l) → ∀ h1 : Hn, h1.b k = w.heap.size → AgS (fun i => decide (i ≠ k)) h h1 → (execOp a.eval o).run P w = .ok (.value (sv.den h1)) (w.alloc (.cells (ca (zaD h1 cs)) t))) :
  zfv P N k l m R o sv [.blk cs t] [] := fun Q h X a w E H Kk hK => by
 let h1 : Hn := ⟨fun i => if i = k then w.heap.size else h.b i, h.r, h.q⟩
 have hb : h1.b k = w.heap.size := if_pos rfl
 unfold Oper.wp
 rw [hr h a w E h1 hb (fun i hi => ⟨if_neg (of_decide_eq_true hi), rfl, rfl⟩)]
 have hf : Frm [] w (w.alloc (.cells (ca (zaD h1 cs)) t)) := Frm.of_below ((Below.refl _ _).alloc (jV _) _)
 refine hK h1 _ (fun i hi => ⟨if_neg (by simp at hi; omega), rfl, rfl⟩) hf ?_
 have := (Sep.none_ H.xk).own hf (q := .blk (h1.b k) (ca (zaD h1 cs)) t) (by rw [hb]; exact heap_alloc_new w _) (by rw [hb]; simp [Res.keys]) (by simp [Res.keys])
 exact this
theorem zmg {a : Act} {w : World} {ty : TypeId} {z : List Chunk} (ho : o.op = .alloc ty) (hz : zep P ty = some (ca z)) : (execOp a.eval o).run P w = .ok (.value (.pointer (some ⟨w.heap.size, 0, none⟩))) (w.alloc (.cells (ca z) ty)) := by
 obtain ⟨i, zv, h1, h2, h3⟩ := zeS hz
 unfold execOp
 simp [ho, Instr.alloc, zeroValue, typeInfo, h1, h2, newVar, newRow, newObj, h3, Sem.run_bind]
 rfl
theorem zzP {a : Act} {w : World} {ty : TypeId} {x : Operand} {v : Value} {z : List Chunk} (ho : o.op = .box ty x) (hx : a.eval x = v) (hz : v.cells = ca z) : (execOp a.eval o).run P w = .ok (.value (.pointer (some ⟨w.heap.size, 0, none⟩))) (w.alloc (.cells (ca z) ty)) := by
 unfold execOp
 simp [ho, Instr.box, newVar, newRow, newObj, hx, hz, Sem.run_bind]
 rfl
theorem zrd {a : Act} {w : World} {t e len sz : Nat} {parts : Array (Nat × Operand)} {z r : List Chunk} {lv : List (Nat × Value)} (E : Env a N lv) (ho : o.op = .buildSlice t len parts) (hu : P.underlying t = some (.slice e)) (hs : zdr P e = some sz) (h0 : 0 < len * sz ∧ len * sz ≤ 2 ^ 24)
  (hz : ((zep P e).map fun c => (Array.range (len * sz)).map (c[· % c.size]!)) = some (ca z)) (hp : znY (fun i => some (i * sz, sz)) lv parts.toList z r) : (execOp a.eval o).run P w = .ok (.value (.slice (some ⟨w.heap.size, 0, none⟩) len len)) (w.alloc (.cells (ca r) e)) := by
 rw [Option.map_eq_some_iff] at hz
 obtain ⟨c, hz1, hz2⟩ := hz
 obtain ⟨i, zv, h1, h2, h3⟩ := zeS hz1
 have hsz : i.size = sz := by
  unfold zdr at hs
  rw [h1] at hs
  simpa using hs
 unfold execOp
 simp only [ho, Sem.run_bind]
 rw [run_buildSlice w t e len (parts.map fun (i, x) => (i, a.eval x)) (ca r) i zv hu h1 h2 (by rw [hsz]; omega) (by rw [hsz]; omega) (by
  rw [hsz, h3, hz2, Array.toList_map]
  exact zeT E _ _ _ hp)]
 rfl
theorem zsC {h h1 : Hn} {k : Nat} {S : Nat → Bool} (ha : AgS (fun i => decide (i ≠ k)) h h1) (hS : S k = false) : AgS S h h1 := fun i hi => ha i (decide_eq_true fun e => by rw [e, hS] at hi; cases hi)
end
def zbN (n : Nat) (K : Nat → Prop) : Prop := match (n + 1) * 1 with | 0 => False | j + 1 => K j
theorem zbb {n : Nat} {K : Nat → Prop} (h : zbN n K) : K n := by
 unfold zbN at h
 rw [Nat.mul_one] at h
 exact h
def zwa (b : Bool) (K : SV → List RB → Prop) : Prop := cond b (K (za4 true) []) (K (za4 false) [])
theorem zd4 {b : Bool} {K : SV → List RB → Prop} (h : zwa b K) : K (za4 b) [] := by cases b <;> exact h
def zsD : List SF → Nat → Option Nat
 | [], _ => none
 | .sl j n _ :: R, i => bif Nat.beq j i then some n else zsD R i
 | _ :: R, i => zsD R i
def zsE : List SF → Nat → Option (List SC)
 | [], _ => none
 | .blk j cs :: R, i => bif Nat.beq j i then some cs else zsE R i
 | _ :: R, i => zsE R i
def zf6 (R : List SF) (m : MB) (i : Nat) : Option (List SC) := match zaA m i with
 | some (.blk cs _) => some cs
 | _ => zsE R i
def zET (R : List SF) (m : MB) (i : Nat) : Option Nat := match zsD R i with
 | some n => some n
 | none => match zaA m i with | some (.row _ _ n _) => some n | _ => none
def tqA (T : Tab) (k : Nat) (l : List (Nat × SV)) (m : MB) (R : List SF) (o : Oper) (K : SV → List RB → Prop) (C : Prop) : Prop :=
 match o.op with
 | .move x => match evS l x with | some v => K v [] | none => C
 | .assign x => match evS l x with | some v => K v [] | none => C
 | .pick c x y => match asBool (evS l c), evS l x, evS l y with
  | some b, some u, some v => cond b (K u []) (K v [])
  | _, _, _ => C
 | .extract x i => match zzO (evS l x) with
  | some xs => match zCX xs i with | some s => K (.a s) [] | none => C
  | none => C
 | .makeFunc f fs cs => match zCu l fs.toList, zCu l cs.toList with
  | some a, some b => K (.a (.s (.fn f a b))) []
  | _, _ => C
 | .binOp op t x y u => match zi0 (evS l x), zi0 (evS l y) with
  | some (k1, a), some (k2, b) => bif ikB k1 k2 then (match op with
   | .eql => zwa (a == b) K
   | .neq => zwa (a != b) K
   | .lss => zwa (decide (a < b)) K
   | .leq => zwa (decide (a ≤ b)) K
   | .gtr => zwa (decide (a > b)) K
   | .geq => zwa (decide (a ≥ b)) K
   | .add => ∃ z, k1.wrap (a + b) = z ∧ K (zam k1 z) []
   | .sub => ∃ z, k1.wrap (a - b) = z ∧ K (zam k1 z) []
   | .mul => ∃ z, k1.wrap (a * b) = z ∧ K (zam k1 z) []
   | _ => C) else C
  | _, _ => match kT T t, zwA (evS l x), zwA (evS l y) with
   | .key, some x, some j => match op with
    | .eql => zwa (decide (za1 x = za1 j)) K
    | .neq => zwa (!decide (za1 x = za1 j)) K
    | _ => C
   | _, _, _ => C
 | .unOp .not t x => match asBool (evS l x) with | some b => zwa (!b) K | none => C
 | .convert s t x => match zi0 (evS l x), szT T s, kT T t with
  | some (_, a), some _, .int kk => ∃ z, kk.wrap a = z ∧ K (zam kk z) []
  | _, _, _ => C
 | .nilCheck x => match zn6 (evS l x) with | some (.own i off) => K (atS i off) [] | some (.ptr ad) => K (zsy ad) [] | some (.hp i j sz off) => K (hpS i j sz off) [] | none => C
 | .load ty x => match zn6 (evS l x), szT T ty with
  | some (.own i off), some (n, ag) => match zf6 R m i with
   | some cs => match zra cs off n with
    | some r => match ag, r with
     | true, r => K (.a (.agg r)) []
     | false, [.one v] => bif Nat.beq n 1 then K (.a (.s v)) [] else C
     | _, _ => C
    | none => C
   | none => C
  | _, _ => C
 | .fieldAddr s x f => match kT T s, zn6 (evS l x) with
  | .st fs, some p => match fs[f]? with
   | some (q1, q2) => bif Nat.beq q2 0 then C else match p with | .own i off => zbN (off + q1) fun n => K (atS i n) [] | .ptr ad => K (zsy (ad.add q1)) [] | .hp i j sz off => zbN (off + q1) fun n => K (hpS i j sz n) []
   | none => C
  | _, _ => C
 | .indexAddr t x y => match zi0 (evS l y), kT T t with
  | some (.i64, z), .sl _ sz => match zEx (evS l x) with
   | some (.own i off n _) => ∃ j : Nat, (z = (j : Int) ∧ j < n) ∧ ((zbN (off + j * sz) fun n => K (atS i n) []) ∨ K (apS i off j sz) [])
   | some (.sl A n _) => ∃ (j : Nat) (ad : Addr), (A = some ad ∧ z = (j : Int) ∧ j < n) ∧ K (zsy (ad.add (j * sz))) []
   | some (.hd i n) => match zET R m i with
    | some n' => ∃ j : Nat, (z = (j : Int) ∧ j < n ∧ j < n') ∧ K (hpS i j sz 0) []
    | none => C
   | _ => C
  | some (_, z), .arr n sz => match zn6 (evS l x) with
   | some (.own i off) => ∃ j : Nat, (z = (j : Int) ∧ j < n) ∧ ((zbN (off + j * sz) fun n => K (atS i n) []) ∨ K (apS i off j sz) [])
   | some (.ptr ad) => ∃ j : Nat, (z = (j : Int) ∧ j < n) ∧ K (zsy (ad.add (j * sz))) []
   | _ => C
  | some (_, z), .key => match zn6 (evS l x) with
   | some (.own i off) => ∃ j : Nat, (z = (j : Int) ∧ j < 32) ∧ ((zbN (off + j * 1) fun n => K (atS i n) []) ∨ K (apS i off j 1) [])
   | some (.ptr ad) => ∃ j : Nat, (z = (j : Int) ∧ j < 32) ∧ K (zsy (ad.add (j * 1))) []
   | _ => C
  | _, _ => C
 | .slice t x none none none => match kT T t, zn6 (evS l x) with
  | .arr n _, some (.own i off) => K (slS i off n n) []
  | .key, some (.own i off) => K (slS i off 32 32) []
  | .arr n _, some (.ptr ad) => K (.a (.s (.p (.v (.slice (some ad) n n))))) []
  | .key, some (.ptr ad) => K (.a (.s (.p (.v (.slice (some ad) 32 32))))) []
  | _, _ => C
 | .build ty parts => match zT T ty, kT T ty with
  | some z, .st fs => match zmf l (fun i => fs[i]?) parts.toList z with | some r => K (.a (.agg r)) [] | none => C
  | some z, .arr n sz => match zmf l (fun i => some (i * sz, sz)) parts.toList z with | some r => K (.a (.agg r)) [] | none => C
  | some z, .key => match parts.toList with | [] => K (.a (.agg z)) [] | _ => C
  | _, _ => C
 | .alloc ty => match zT T ty with | some z => K (atS k 0) [.blk z ty] | none => C
 | .box ty x => match zf4 (evS l x) with | some cs => bif wfC (fun i => Nat.ble (i + 1) k) cs then K (atS k 0) [.blk cs ty] else C | none => C
 | .buildSlice t len parts => match kT T t with
  | .sl e sz => bif Nat.ble 1 (len * sz) && Nat.ble (len * sz) 16777216 then (match zT T e with
   | some z => bif zfi z sz then (match zmf l (fun i => some (i * sz, sz)) parts.toList (zv9 len z) with
    | some r => bif wfC (fun i => Nat.ble (i + 1) k) r then K (slS k 0 len len) [.blk r e] else C
    | none => C) else C
   | none => C) else C
  | _ => C
 | .call c => match c.callee, c.args.toList, c.argTypes.toList with
  | .builtin .len, [x], [t] => match kT T t, zEx (evS l x) with
   | .sl _ _, some s => K (zam .i64 (s.len : Int)) []
   | _, _ => C
  | _, _, _ => C
 | _ => C
def zn9 : List SC → Nat → Option Value
 | [], _ => none
 | .one x :: cs, n => match n with | 0 => (match x with | .p (.v u) => some u | _ => none) | j + 1 => zn9 cs j
 | .key k :: cs, n => bif Nat.ble 32 n then zn9 cs (n - 32) else some (bv (k.getD n 0))
 | .row m f :: cs, n => bif Nat.ble m n then zn9 cs (n - m) else some (f n)
def zEy (cs : List SC) (off : Nat) : Option (Nat × (Nat → Value)) := match zgH cs off with
 | some (.row n f :: _) => some (n, f)
 | some (.key k :: _) => some (32, fun i => bv (k.getD i 0))
 | _ => none
def zfM (v : Value) : SV := .a (.s (.p (.v v)))
def zsF : Nat → Nat → (Nat → Value) → List SC
 | 0, _, _ => []
 | n + 1, j, f => .one (.p (.v (f j))) :: zsF n (j + 1) f
def zzQ (f : Nat → Value) : Nat → Nat → List SC → Prop
 | 0, _, [] => True
 | n + 1, j, .one (.p (.v x)) :: cs => f j = x ∧ zzQ f n (j + 1) cs
 | _, _, _ => False
def tqB (T : Tab) (l : List (Nat × SV)) (m : MB) (R : List SF) (o : Oper) (K : SV → List RB → Prop) (C : Prop) : Prop :=
 match o.op with
 | .binOp op t x y u => match zi0 (evS l x), zi0 (evS l y) with
  | some (k1, a), some (k2, b) => match op with
   | .shl => 0 ≤ b ∧ ∃ z, k1.wrap (a * 2 ^ (min b.toNat k1.bits)) = z ∧ K (zam k1 z) []
   | .shr => 0 ≤ b ∧ ∃ z, a.fdiv (2 ^ (min b.toNat k1.bits)) = z ∧ K (zam k1 z) []
   | .and => bif ikB k1 k2 then ∃ z, k1.wrap (BitVec.ofInt k1.bits a &&& BitVec.ofInt k1.bits b).toNat = z ∧ K (zam k1 z) [] else C
   | .or => bif ikB k1 k2 then ∃ z, k1.wrap (BitVec.ofInt k1.bits a ||| BitVec.ofInt k1.bits b).toNat = z ∧ K (zam k1 z) [] else C
   | .xor => bif ikB k1 k2 then ∃ z, k1.wrap (BitVec.ofInt k1.bits a ^^^ BitVec.ofInt k1.bits b).toNat = z ∧ K (zam k1 z) [] else C
   | .quo => bif ikB k1 k2 then b ≠ 0 ∧ ∃ z, k1.wrap (a.tdiv b) = z ∧ K (zam k1 z) [] else C
   | .rem => bif ikB k1 k2 then b ≠ 0 ∧ ∃ z, a.tmod b = z ∧ K (zam k1 z) [] else C
   | _ => C
  | _, _ => C
 | .unOp .neg t x => match zi0 (evS l x) with
  | some (k1, a) => ∃ z, k1.wrap (0 - a) = z ∧ K (zam k1 z) []
  | none => C
 | .load ty x => match szT T ty with
  | some (1, false) => match evS l x with
   | some (.a (.s (.p (.at_ i off)))) => match zf6 R m i with
    | some cs => match zn9 cs off with | some v => K (zfM v) [] | none => C
    | none => C
   | some (.a (.s (.p (.ap i off j s)))) => match zf6 R m i with
    | some cs => match zEy cs off with | some (n, f) => bif Nat.beq s 1 then (j < n ∧ K (zfM (f j)) []) else C | none => C
    | none => C
   | _ => C
  | _ => C
 | .index t x y => match kT T t, evS l x, zi0 (evS l y) with
  | .arr n 1, some (.a (.agg [.row n' f])), some (_, z) => bif Nat.beq n n' then ∃ j : Nat, (z = (j : Int) ∧ j < n) ∧ K (zfM (f j)) [] else C
  | .key, some (.a (.agg [.key b])), some (_, z) => ∃ j : Nat, (z = (j : Int) ∧ j < 32) ∧ K (zfM (bv (b.getD j 0))) []
  | _, _, _ => C
 | .build ty parts => match kT T ty, zT T ty with
  | .arr n 1, some [.row n' f0] => bif Nat.beq n n' then (match zmf l (fun i => some (i * 1, 1)) parts.toList (zsF n' 0 f0) with
   | some r => ∃ f : Nat → Value, zzQ f n 0 r ∧ K (.a (.agg [.row n f])) []
   | none => C) else C
  | _, _ => C
 | _ => C
def tq (T : Tab) (k : Nat) (l : List (Nat × SV)) (m : MB) (R : List SF) (o : Oper) (K : SV → List RB → Prop) (C : Prop) : Prop := tqA T k l m R o K (tqB T l m R o K C)
end
section
open Go.RowKit
section
variable {P : Program} {T : Tab} {N k : Nat} {l : List (Nat × SV)} {m : MB} {R : List SF} {o : Oper} {K : SV → List RB → Prop} {C : Prop}
def zre (P : Program) (N k : Nat) (l : List (Nat × SV)) (m : MB) (R : List SF) (o : Oper) (K : SV → List RB → Prop) (C : Prop) : Prop := (∃ sv rs, zfv P N k l m R o sv rs [] ∧ K sv rs) ∨ C
theorem zaN {sv : SV} (hp : ∀ (h : Hn) (w : World), PK P zgD w (zcd h l) o (sv.den h)) (hk : K sv []) : zre P N k l m R o K C := .inl ⟨sv, [], zdS (zsB hp), hk⟩
theorem zev {sv : SV} (hp : zfk P N l m R o sv) (hk : K sv []) : zre P N k l m R o K C := .inl ⟨sv, [], zdS hp, hk⟩
theorem zco {X : List Nat} {w : World} {Rr : List (World → Prop)} {h : Hn} (H : Sp X w (zae h [] m) Rr) {i : Nat} {cs : List SC} {t : Nat} (e : zaA m i = some (.blk cs t)) : w.heap[h.b i]? = some (.cells (ca (zaD h cs)) t (0, 0)) :=
 H.holds _ ((zaM h m [] i _ e (by simp)).mem_iff.2 (List.mem_cons_self ..))
theorem zCZ {t e : Nat} (h : P.underlying t = some (.slice e)) : zv6 P t = true := by unfold zv6; rw [h]
theorem zEU {t e sz : Nat} (h : P.underlying t = some (.slice e)) (hs : zdr P e = some sz) : elK P t = some sz := by unfold elK; rw [h]; exact hs
theorem zhU (b off k : Nat) : (⟨b, off, none⟩ : Addr).add k = ⟨b, off + k, none⟩ := by rw [zck]
theorem Sl.ev {h : Hn} (s : Sl) : ∃ A c, s.sv.den h = .slice A s.len c := by cases s <;> exact ⟨_, _, rfl⟩
theorem zdx {i n : Nat} : ∀ {R : List SF}, zsD R i = some n → ∃ f, SF.sl i n f ∈ R
 | [], e => by cases e
 | .sl j n' f :: R, e => by
  unfold zsD at e
  cases hb : Nat.beq j i with
  | true =>
   rw [hb] at e
   obtain rfl := Nat.eq_of_beq_eq_true hb
   obtain rfl : n' = n := Option.some.inj e
   exact ⟨f, List.mem_cons_self ..⟩
  | false =>
   rw [hb] at e
   obtain ⟨f', h⟩ := zdx (R := R) e
   exact ⟨f', List.mem_cons_of_mem _ h⟩
 | .c _ :: R, e => by
  obtain ⟨f', h⟩ := zdx (R := R) e
  exact ⟨f', List.mem_cons_of_mem _ h⟩
 | .b _ _ :: R, e => by
  obtain ⟨f', h⟩ := zdx (R := R) e
  exact ⟨f', List.mem_cons_of_mem _ h⟩
 | .h _ _ :: R, e => by
  obtain ⟨f', h⟩ := zdx (R := R) e
  exact ⟨f', List.mem_cons_of_mem _ h⟩
 | .q _ _ :: R, e => by
  obtain ⟨f', h⟩ := zdx (R := R) e
  exact ⟨f', List.mem_cons_of_mem _ h⟩
 | .nm _ _ :: R, e => by
  obtain ⟨f', h⟩ := zdx (R := R) e
  exact ⟨f', List.mem_cons_of_mem _ h⟩
 | .blk _ _ :: R, e => by
  obtain ⟨f', h⟩ := zdx (R := R) e
  exact ⟨f', List.mem_cons_of_mem _ h⟩
theorem zaQ {h : Hn} {r : World → Prop} : ∀ {R : List SF}, r ∈ zaT h R ↔ ∃ q ∈ R, r = q.den h
 | [] => by simp [zaT]
 | q :: R => by simp [zaT, zaQ (R := R)]
theorem zdy {i : Nat} {cs : List SC} : ∀ {R : List SF}, zsE R i = some cs → SF.blk i cs ∈ R
 | [], e => by cases e
 | .blk j cs' :: R, e => by
  unfold zsE at e
  cases hb : Nat.beq j i with
  | true =>
   rw [hb] at e
   obtain rfl := Nat.eq_of_beq_eq_true hb
   obtain rfl : cs' = cs := Option.some.inj e
   exact List.mem_cons_self ..
  | false =>
   rw [hb] at e
   exact List.mem_cons_of_mem _ (zdy (R := R) e)
 | .c _ :: R, e => List.mem_cons_of_mem _ (zdy (R := R) e)
 | .b _ _ :: R, e => List.mem_cons_of_mem _ (zdy (R := R) e)
 | .h _ _ :: R, e => List.mem_cons_of_mem _ (zdy (R := R) e)
 | .q _ _ :: R, e => List.mem_cons_of_mem _ (zdy (R := R) e)
 | .nm _ _ :: R, e => List.mem_cons_of_mem _ (zdy (R := R) e)
 | .sl _ _ _ :: R, e => List.mem_cons_of_mem _ (zdy (R := R) e)
theorem zjX {X : List Nat} {w : World} {h : Hn} {i : Nat} {cs : List SC} (H : Sp X w (zae h [] m) (zaT h R)) (e : zf6 R m i = some cs) : AtC ⟨h.b i, 0, none⟩ (zaD h cs) w := by
 unfold zf6 at e
 split at e
 ·rename_i cs' t hm
  rw [← Option.some.inj e]
  exact zeo (zco H hm)
 ·exact (H.facts _ (zaQ.2 ⟨_, zdy e, rfl⟩)).now
theorem zmh {ty i off n : Nat} {ag : Bool} {cs r : List SC} {x : Operand} {sv : SV} (ho : o.op = .load ty x) (hx : evS l x = some (atS i off)) (ht : tyK P ty = some (n, ag)) (hm : zf6 R m i = some cs) (hp : zra cs off n = some r) (hv : (ag = true ∧ sv = .a (.agg r)) ∨ (∃ v, ag = false ∧ n = 1 ∧ r = [.one v] ∧ sv = .a (.s v))) : zfk P N l m R o sv := fun h X a w E H => by
 have h1 := zgF (zjX H hm) (zfZ h hp)
 have h2 : AtC ⟨h.b i, off, none⟩ (zaD h r) w := by rw [zjI]; exact h1
 rcases hv with ⟨rfl, rfl⟩ | ⟨v, rfl, rfl, rfl, rfl⟩
 ·exact zbM E ho (zaf hx) ht (zeR (zfZ h hp)).2.1 h2
 ·exact za0 E ho (zaf hx) ht h2
theorem zzR {X : List Nat} {w : World} {h : Hn} {i n : Nat} (H : Sp X w (zae h [] m) (zaT h R)) (e : zET R m i = some n) : (h.r i).1 = none → n = 0 := by
 unfold zET at e
 split at e
 ·rename_i n' hn'
  obtain rfl := Option.some.inj e
  obtain ⟨f, hf⟩ := zdx hn'
  exact (show ((h.r i).1 = none → n' = 0) ∧ f (h.r i) w from (H.facts _ (zaQ.2 ⟨_, hf, rfl⟩)).now).1
 ·split at e
  ·rename_i e' sz n' xs hm
   obtain rfl := Option.some.inj e
   intro hA
   have hh : w.ownsRow 0 e' sz (.slice (h.r i).1 n' (h.r i).2) n' (xs (h.q i)) := H.holds _ ((zaM h m [] i _ hm (by simp)).mem_iff.2 (List.mem_cons_self ..))
   rcases hh.2 with ⟨_, e2⟩ | ⟨g, cap, cur, e1, _⟩
   ·exact e2
   ·rw [hA] at e1; injection e1 with e1; cases e1
  ·cases e
theorem zzS {x : Operand} (ho : o.op = .move x) (h : match evS l x with | some v => K v [] | none => C) : zre P N k l m R o K C := by
 cases hx : evS l x with
 | none => simp only [hx] at h; exact .inr h
 | some v => simp only [hx] at h; exact zaN (fun hn w => zsb ho (zaf hx)) h
theorem zsG {x : Operand} (ho : o.op = .assign x) (h : match evS l x with | some v => K v [] | none => C) : zre P N k l m R o K C := by
 cases hx : evS l x with
 | none => simp only [hx] at h; exact .inr h
 | some v => simp only [hx] at h; exact zaN (fun hn w => zk5 ho (zaf hx)) h
theorem zed {op : BinOp} {t u : TypeId} {x y : Operand} {ik : IntKind} {p q : Int} {sv : SV} {v : Value} (ho : o.op = .binOp op t x y u) (hx : evS l x = some (zam ik p)) (hy : evS l y = some (zam ik q)) (hr : zen op ik p q = some v) (hv : ∀ h, sv.den h = v) (hk : K sv []) : zre P N k l m R o K C :=
 zaN (fun h w => by rw [hv]; exact zo3 ho (zaf hx) (zaf hy) hr) hk
theorem zzT {ty : TypeId} {x : Operand} (hT : zbC P T) (ho : o.op = .load ty x) (h : match zn6 (evS l x), szT T ty with
  | some (.own i off), some (n, ag) => match zf6 R m i with
   | some cs => match zra cs off n with
    | some r => match ag, r with
     | true, r => K (.a (.agg r)) []
     | false, [.one v] => bif Nat.beq n 1 then K (.a (.s v)) [] else C
     | _, _ => C
    | none => C
   | none => C
  | _, _ => C) : zre P N k l m R o K C := by
 split at h
 ·rename_i i off n1 n2 hx hn
  have hx' := zby hx
  have hn' := zfn hT hn
  split at h
  ·rename_i cs hm
   split at h
   ·rename_i r hp
    split at h
    ·exact zev (zmh ho hx' hn' hm hp (.inl ⟨rfl, rfl⟩)) h
    ·rename_i v
     cases hb : Nat.beq n1 1 with
     | false => simp only [hb, cond_false] at h; exact .inr h
     | true =>
      simp only [hb, cond_true] at h
      have hb := Nat.eq_of_beq_eq_true hb
      exact zev (zmh ho hx' hn' hm hp (.inr ⟨v, rfl, hb, rfl, rfl⟩)) h
    ·exact .inr h
   ·exact .inr h
  ·exact .inr h
 ·exact .inr h
theorem zwE {s : TypeId} {x : Operand} {f : Nat} (hT : zbC P T) (ho : o.op = .fieldAddr s x f) (h : match kT T s, zn6 (evS l x) with
  | .st fs, some p => match fs[f]? with
   | some (q1, q2) => bif Nat.beq q2 0 then C else match p with | .own i off => zbN (off + q1) fun n => K (atS i n) [] | .ptr ad => K (zsy (ad.add q1)) [] | .hp i j sz off => zbN (off + q1) fun n => K (hpS i j sz n) []
   | none => C
  | _, _ => C) : zre P N k l m R o K C := by
 split at h
 ·rename_i fs p hk hx
  have hx' := zby hx
  have hok := zhT hT s
  rw [hk] at hok
  split at h
  ·rename_i q1 q2 hq
   cases hb : Nat.beq q2 0 with
   | true => simp only [hb, cond_true] at h; exact .inr h
   | false =>
    simp only [hb, cond_false] at h
    have h0 : q2 ≠ 0 := fun e => by rw [e] at hb; cases hb
    have hz : zg1 P s (0 + f) = some (q1, q2) := FZ.get hok.2 hq
    rw [Nat.zero_add] at hz
    have hf := zsx (f := f) (off := q1) (sz := q2) hz h0
    cases p with
    | own i off =>
     exact zaN (sv := atS i (off + q1)) (fun hn w => by
      have := zbj (S := zgD) (ws := w) ho (zaf (h := hn) hx') hf
      rw [zhU] at this
      exact this) (zbb h)
    | ptr ad => exact zaN (sv := zsy (ad.add q1)) (fun hn w => zbj ho (zaf hx') hf) h
    | hp i j sz off =>
     have h := zbb h
     exact zaN (sv := hpS i j sz (off + q1)) (fun hn w => by
      have := zbj (S := zgD) (ws := w) ho (zaf (h := hn) hx') hf
      rw [Addr.add_add] at this
      exact this) h
  ·exact .inr h
 ·exact .inr h
theorem zhs {t n sz : Nat} {x y : Operand} {z : Int} {ik : IntKind} {p : Pl} (ho : o.op = .indexAddr t x y) (ht : arK P t = some (n, sz)) (hx : evS l x = some p.sv) (hy : evS l y = some (zam ik z))
  (h : match p with | .own i off => ∃ j : Nat, (z = (j : Int) ∧ j < n) ∧ (zbN (off + j * sz) (fun n => K (atS i n) []) ∨ K (apS i off j sz) []) | .ptr ad => ∃ j : Nat, (z = (j : Int) ∧ j < n) ∧ K (zsy (ad.add (j * sz))) [] | .hp _ _ _ _ => C) : zre P N k l m R o K C := by
 cases p with
 | own i off =>
  obtain ⟨j, ⟨h1, h2⟩, h3⟩ := h
  have key : ∀ (hn : Hn) (w : World), PK P zgD w (zcd hn l) o (.pointer (some ⟨hn.b i, off + j * sz, none⟩)) := fun hn w => by
   have := zyT (S := zgD) (ws := w) ho ht (zaf (h := hn) hx) (zaf hy) h1 h2
   rw [zhU] at this
   exact this
  rcases h3 with h3 | h3
  ·exact zaN (sv := atS i (off + j * sz)) key (zbb h3)
  ·exact zaN (sv := apS i off j sz) key h3
 | ptr ad =>
  obtain ⟨j, ⟨h1, h2⟩, h3⟩ := h
  exact zaN (fun hn w => zyT ho ht (zaf (h := hn) hx) (zaf hy) h1 h2) h3
 | hp i j sz off => exact .inr h
theorem zht {t n sz : Nat} {x : Operand} {p : Pl} (ho : o.op = .slice t x none none none) (ht : arK P t = some (n, sz)) (hx : evS l x = some p.sv) (h : match p with | .own i off => K (slS i off n n) [] | .ptr ad => K (.a (.s (.p (.v (.slice (some ad) n n))))) [] | .hp _ _ _ _ => C) : zre P N k l m R o K C := by
 cases p with
 | own i off => exact zaN (fun hn w => zn4 ho ht (zaf (h := hn) hx)) h
 | ptr ad => exact zaN (fun hn w => zn4 ho ht (zaf (h := hn) hx)) h
 | hp i j sz off => exact .inr h
theorem zjY {cs : List SC} {t : Nat} {sv : SV} (hk : K sv [.blk cs t]) (hr : ∀ (h : Hn) (a : Act) (w : World), Env a N (zcd h l) → ∀ h1 : Hn, h1.b k = w.heap.size → AgS (fun i => decide (i ≠ k)) h h1 → (execOp a.eval o).run P w = .ok (.value (sv.den h1)) (w.alloc (.cells (ca (zaD h1 cs)) t))) : zre P N k l m R o K C :=
 .inl ⟨sv, _, zwD sv hr, hk⟩
theorem zpm (k : Nat) : Nat.blt k k = false := by
 cases h : Nat.blt k k with
 | false => rfl
 | true => have := Nat.le_of_ble_eq_true h; omega
theorem zsH (hT : zbC P T) (h : tqA T k l m R o K C) : zre P N k l m R o K C := by
 unfold tqA at h
 split at h
 ·rename_i x ho; exact zzS ho h
 ·rename_i x ho; exact zsG ho h
 ·rename_i c x y ho
  split at h
  ·rename_i b u v hc hx hy
   have hc' := zet hc
   cases b with
   | true => exact zaN (fun hn w => zsc ho (zaf hc') (zaf hx)) h
   | false => exact zaN (fun hn w => zsc ho (zaf hc') (zaf hy)) h
  ·exact .inr h
 ·rename_i x i ho
  split at h
  ·rename_i xs hx
   split at h
   ·rename_i s hs
    exact zaN (sv := .a s) (fun hn w => zi7 ho (zaf (zwB hx)) (zsz hn xs i s hs)) h
   ·exact .inr h
  ·exact .inr h
 ·rename_i f fs cs ho
  split at h
  ·rename_i a b ha hb
   exact zaN (fun hn w => znV ho (zn7 ha) (zn7 hb)) h
  ·exact .inr h
 ·rename_i op t x y u ho
  split at h
  ·rename_i k1 a k2 b hx hy
   have hx' := zcn hx
   have hy' := zcn hy
   cases hb : ikB k1 k2 with
   | false => simp only [hb, cond_false] at h; exact .inr h
   | true =>
    simp only [hb, cond_true] at h
    rw [← of_decide_eq_true hb] at hy'
    split at h
    ·exact zed ho hx' hy' rfl (fun _ => rfl) (zd4 h)
    ·exact zed ho hx' hy' rfl (fun _ => rfl) (zd4 h)
    ·exact zed ho hx' hy' rfl (fun _ => rfl) (zd4 h)
    ·exact zed ho hx' hy' rfl (fun _ => rfl) (zd4 h)
    ·exact zed ho hx' hy' rfl (fun _ => rfl) (zd4 h)
    ·exact zed ho hx' hy' rfl (fun _ => rfl) (zd4 h)
    ·obtain ⟨z, hz, h⟩ := h; exact zed ho hx' hy' (by rw [zen, hz]) (fun _ => rfl) h
    ·obtain ⟨z, hz, h⟩ := h; exact zed ho hx' hy' (by rw [zen, hz]) (fun _ => rfl) h
    ·obtain ⟨z, hz, h⟩ := h; exact zed ho hx' hy' (by rw [zen, hz]) (fun _ => rfl) h
    ·exact .inr h
  ·split at h
   ·rename_i x' j hk hx hy
    have hok := zhT hT t
    rw [hk] at hok
    have hx' := zpj hx
    have hy' := zpj hy
    split at h
    ·exact zaN (fun hn w => zCU ho hok.1 (zaf hx') (zaf hy')) (zd4 h)
    ·exact zaN (fun hn w => zCV ho hok.1 (zaf hx') (zaf hy')) (zd4 h)
    ·exact .inr h
   ·exact .inr h
 ·rename_i t x ho
  split at h
  ·rename_i b hx
   exact zaN (fun hn w => zyP ho (zaf (zet hx))) (zd4 h)
  ·exact .inr h
 ·rename_i s t x ho
  split at h
  ·rename_i k1 a n kk hx hs hk
   have hx' := zcn hx
   have hs' := zfn hT hs
   have hok := zhT hT t
   rw [hk] at hok
   obtain ⟨z, hz, h⟩ := h
   exact zaN (fun hn w => by
    have := zsd (S := zgD) (ws := w) ho (zaf (h := hn) hx') (by obtain ⟨d, hd, _⟩ := zk6 hs'; rw [hd]; rfl) hok
    rw [hz] at this
    exact this) h
  ·exact .inr h
 ·rename_i x ho
  split at h
  ·rename_i i off hx
   exact zaN (fun hn w => by
    have hv := zaf (h := hn) (zby hx)
    intro w' _ a N E
    unfold execOp
    simp only [ho, Sem.run_bind, E.ev hv]
    rfl) h
  ·rename_i ad hx
   exact zaN (fun hn w => by
    have hv := zaf (h := hn) (zby hx)
    intro w' _ a N E
    unfold execOp
    simp only [ho, Sem.run_bind, E.ev hv]
    rfl) h
  ·rename_i i j sz off hx
   exact zaN (fun hn w => by
    have hv := zaf (h := hn) (zby hx)
    intro w' _ a N E
    unfold execOp
    simp only [ho, Sem.run_bind, E.ev hv]
    rfl) h
  ·exact .inr h
 ·rename_i ty x ho; exact zzT hT ho h
 ·rename_i s x f ho; exact zwE hT ho h
 ·rename_i t x y ho
  have hok := zhT hT t
  split at h
  ·rename_i z sz e hy hk
   rw [hk] at hok
   have hy' := zcn hy
   have hel := zEU hok.1 hok.2
   split at h
   ·rename_i i off n c hx
    obtain ⟨j, ⟨h1, h2⟩, h3⟩ := h
    have key : ∀ (hn : Hn) (w : World), PK P zgD w (zcd hn l) o (.pointer (some ⟨hn.b i, off + j * _, none⟩)) := fun hn w => by
     have := zwo (S := zgD) (ws := w) ho hel (zaf (h := hn) (zjW hx)) (zaf hy') h1 h2
     rw [zhU] at this
     exact this
    rcases h3 with h3 | h3
    ·exact zaN (sv := atS i (off + j * _)) key (zbb h3)
    ·exact zaN (sv := apS i off j _) key h3
   ·rename_i A n c hx
    obtain ⟨j, ad, ⟨rfl, h1, h2⟩, h3⟩ := h
    exact zaN (fun hn w => zwo ho hel (zaf (h := hn) (zjW hx)) (zaf hy') h1 h2) h3
   ·rename_i i n hx
    split at h
    ·rename_i n' hn'
     obtain ⟨j, ⟨h1, h2, h4⟩, h3⟩ := h
     refine zev (sv := hpS i j _ 0) (fun hn X a w E H => ?_) h3
     have hA := zzR H hn'
     have hs := zaf (h := hn) (zjW hx)
     cases hq : (hn.r i).1 with
     | none => have := hA hq; omega
     | some ad =>
      have hs' : ev (zcd hn l) x = some (.slice (some ad) n (hn.r i).2) := by rw [hs, ← hq]; rfl
      have := zwo (P := P) (S := zgD) (ws := w) ho hel hs' (zaf (h := hn) hy') h1 h2 w (CanB.Keep.refl _ _) a N E
      rw [this]
      show _ = Result.ok (Next.value (.pointer (some ((((hn.r i).1.getD ⟨0, 0, none⟩).add (j * _)).add 0)))) w
      rw [hq, zav]
      rfl
    ·exact .inr h
   ·exact .inr h
  ·rename_i kk z n sz hy hk
   rw [hk] at hok
   have hy' := zcn hy
   split at h
   ·rename_i i off hx; exact zhs (p := .own i off) ho hok.1 (zby hx) hy' h
   ·rename_i ad hx; exact zhs (p := .ptr ad) ho hok.1 (zby hx) hy' h
   ·exact .inr h
  ·rename_i kk z hy hk
   rw [hk] at hok
   have hy' := zcn hy
   split at h
   ·rename_i i off hx; exact zhs (p := .own i off) ho hok.2.1 (zby hx) hy' h
   ·rename_i ad hx; exact zhs (p := .ptr ad) ho hok.2.1 (zby hx) hy' h
   ·exact .inr h
  ·exact .inr h
 ·rename_i t x ho
  have hok := zhT hT t
  split at h
  ·rename_i n sz i off hk hx
   rw [hk] at hok
   exact zht (p := .own i off) ho hok.1 (zby hx) h
  ·rename_i i off hk hx
   rw [hk] at hok
   exact zht (p := .own i off) ho hok.2.1 (zby hx) h
  ·rename_i n sz ad hk hx
   rw [hk] at hok
   exact zht (p := .ptr ad) ho hok.1 (zby hx) h
  ·rename_i ad hk hx
   rw [hk] at hok
   exact zht (p := .ptr ad) ho hok.2.1 (zby hx) h
  ·exact .inr h
 ·rename_i ty parts ho
  have hok := zhT hT ty
  split at h
  ·rename_i z fs hz hk
   rw [hk] at hok
   split at h
   ·rename_i r hr
    exact zaN (fun hn w => zwq ho hok.1 (zrc hT hz hn) (zf5 (fun i x hi => by have := FZ.get hok.2 hi; rwa [Nat.zero_add] at this) hr)) h
   ·exact .inr h
  ·rename_i z n sz hz hk
   rw [hk] at hok
   split at h
   ·rename_i r hr
    exact zaN (fun hn w => zf2 (zaD hn r) ho hok.1 (zrc hT hz hn) (zf5 (fun i x hi => hi) hr) rfl) h
   ·exact .inr h
  ·rename_i z hz hk
   rw [hk] at hok
   split at h
   ·rename_i hp
    exact zaN (fun hn w => zf2 (zaD hn z) ho hok.2.1 (zrc hT hz hn) (by rw [hp]; rfl) rfl) h
   ·exact .inr h
  ·exact .inr h
 ·rename_i ty ho
  split at h
  ·rename_i z hz
   exact zjY h fun hn a w E h1 hb ha => by
    have := zmg (P := P) (a := a) (w := w) ho (zrc hT hz h1)
    rw [this]
    show Result.ok (Next.value (.pointer (some ⟨w.heap.size, 0, none⟩))) _ = Result.ok (Next.value (.pointer (some ⟨h1.b k, 0, none⟩))) _
    rw [hb]
  ·exact .inr h
 ·rename_i ty x ho
  split at h
  ·rename_i cs hcs
   cases hw : wfC (fun i => Nat.ble (i + 1) k) cs with
   | false => simp only [hw, cond_false] at h; exact .inr h
   | true =>
    simp only [hw, cond_true] at h
    cases hx : evS l x with
    | none => rw [hx] at hcs; cases hcs
    | some v =>
     rw [hx] at hcs
     exact zjY h fun hn a w E h1 hb ha => by
      have e1 : zaD h1 cs = zaD hn cs := zdb (zsC (S := fun i => Nat.ble (i + 1) k) ha (zpm _)) hw
      rw [e1, zzP ho (E.ev (zaf hx)) (zeu hcs)]
      show Result.ok (Next.value (.pointer (some ⟨w.heap.size, 0, none⟩))) _ = Result.ok (Next.value (.pointer (some ⟨h1.b k, 0, none⟩))) _
      rw [hb]
  ·exact .inr h
 ·rename_i t len parts ho
  have hok := zhT hT t
  split at h
  ·rename_i e sz hk
   rw [hk] at hok
   cases hle : (Nat.ble 1 (len * sz) && Nat.ble (len * sz) 16777216) with
   | false => simp only [hle, cond_false] at h; exact .inr h
   | true =>
    simp only [hle, cond_true] at h
    rw [Bool.and_eq_true] at hle
    have hl1 := Nat.le_of_ble_eq_true hle.1
    have hl2 := Nat.le_of_ble_eq_true hle.2
    split at h
    ·rename_i z hz
     cases hls : zfi z sz with
     | false => simp only [hls, cond_false] at h; exact .inr h
     | true =>
      simp only [hls, cond_true] at h
      split at h
      ·rename_i r hr
       cases hw : wfC (fun i => Nat.ble (i + 1) k) r with
       | false => simp only [hw, cond_false] at h; exact .inr h
       | true =>
        simp only [hw, cond_true] at h
        exact zjY h fun hn a w E h1 hb ha => by
         have e1 : zaD h1 r = zaD hn r := zdb (zsC (S := fun i => Nat.ble (i + 1) k) ha (zpm _)) hw
         rw [e1, zrd E ho hok.1 hok.2 (by omega) (zwC (zrc hT hz hn) (zcG hls)) (zf5 (fun i x hi => hi) hr)]
         show Result.ok (Next.value (.slice (some ⟨w.heap.size, 0, none⟩) len len)) _ = Result.ok (Next.value (.slice (some ⟨h1.b k, 0, none⟩) len len)) _
         rw [hb]
      ·exact .inr h
    ·exact .inr h
  ·exact .inr h
 ·rename_i c ho
  split at h
  ·rename_i x t hc hargs htys
   have hok := zhT hT t
   split at h
   ·rename_i e sz s hk hx
    rw [hk] at hok
    have hop : o.op = .call { callee := .builtin .len, args := #[x], argTypes := #[t] } := by
     rw [ho]
     obtain ⟨c1, c2, c3⟩ := c
     simp only at hc hargs htys
     subst hc
     rw [show c2 = #[x] from Array.toList_inj.1 hargs, show c3 = #[t] from Array.toList_inj.1 htys]
    exact zaN (fun hn w => by
     obtain ⟨A, cc, hs⟩ := Sl.ev (h := hn) s
     exact zyQ hop ((zaf (zjW hx)).trans (by rw [hs])) (zCZ hok.1)) h
   ·exact .inr h
  ·exact .inr h
 ·exact .inr h
theorem zhu (h : Hn) : ∀ {cs : List SC} {n : Nat} {v : Value}, zn9 cs n = some v → (cl (zaD h cs))[n]? = some v
 | [], _, _, e => by cases e
 | .one x :: cs, 0, v, e => by
  cases x with
  | p x => cases x with
   | v u => rw [← Option.some.inj e]; rfl
   | _ => cases e
  | fn _ _ _ => cases e
 | .one x :: cs, n + 1, v, e => by
  have := zhu h (cs := cs) (n := n) e
  simpa [zaD, cl, SC.den, Chunk.cells] using this
 | .key k :: cs, n, v, e => by
  rw [zn9] at e
  cases hb : Nat.ble 32 n with
  | true =>
   rw [hb] at e
   have hle := Nat.le_of_ble_eq_true hb
   have := zhu h (cs := cs) (n := n - 32) e
   simp only [zaD, cl, SC.den, Chunk.cells]
   rw [List.getElem?_append_right (by simp [zgC]; omega)]
   simpa [zgC] using this
  | false =>
   rw [hb] at e
   have hlt : n < 32 := Nat.lt_of_not_le fun hle => by rw [Nat.ble_eq_true_of_le hle] at hb; cases hb
   simp only [zaD, cl, SC.den, Chunk.cells]
   rw [List.getElem?_append_left (by simp [zgC]; omega), ← Option.some.inj e]
   simp [zgC, hlt]
 | .row m f :: cs, n, v, e => by
  rw [zn9] at e
  cases hb : Nat.ble m n with
  | true =>
   rw [hb] at e
   have hle := Nat.le_of_ble_eq_true hb
   have := zhu h (cs := cs) (n := n - m) e
   simp only [zaD, cl, SC.den, Chunk.cells]
   rw [List.getElem?_append_right (by simp; omega)]
   simpa using this
  | false =>
   rw [hb] at e
   have hlt : n < m := Nat.lt_of_not_le fun hle => by rw [Nat.ble_eq_true_of_le hle] at hb; cases hb
   simp only [zaD, cl, SC.den, Chunk.cells]
   rw [List.getElem?_append_left (by simp; omega), ← Option.some.inj e]
   simp [hlt]
theorem zsI (h : Hn) {cs : List SC} {off n j : Nat} {f : Nat → Value} (e : zEy cs off = some (n, f)) (hj : j < n) : (cl (zaD h cs))[off + j]? = some (f j) := by
 unfold zEy at e
 split at e
 ·rename_i m g r hd
  injection e with e
  injection e with e1 e2
  subst e1 e2
  have h1 := (zfU _ _ _ (zdc h _ _ _ hd)).1
  have h2 := congrArg (fun l => l[j]?) h1
  simp only [List.getElem?_drop] at h2
  rw [← h2]
  simp only [zaD, cl, SC.den, Chunk.cells]
  rw [List.getElem?_append_left (by simpa using hj)]
  simp [hj]
 ·rename_i k r hd
  injection e with e
  injection e with e1 e2
  subst e1 e2
  have h1 := (zfU _ _ _ (zdc h _ _ _ hd)).1
  have h2 := congrArg (fun l => l[j]?) h1
  simp only [List.getElem?_drop] at h2
  rw [← h2]
  simp only [zaD, cl, SC.den, Chunk.cells]
  rw [List.getElem?_append_left (by simpa [zgC] using hj)]
  simp [zgC, hj]
 ·cases e
theorem zzU {X : List Nat} {w : World} {h : Hn} {i : Nat} {cs : List SC} {v : Value} {c : Nat} (H : Sp X w (zae h [] m) (zaT h R)) (hm : zf6 R m i = some cs) (hc : (cl (zaD h cs))[c]? = some v) : AtC ⟨h.b i, c, none⟩ [.one v] w := fun t u hu => by
 have h1 := zjX H hm c v hc
 rw [zhU] at h1 ⊢
 cases t with
 | zero =>
  have : u = v := by simpa [cl, Chunk.cells] using hu.symm
  rw [this]
  simpa using h1
 | succ t => simp [cl, Chunk.cells] at hu
theorem zpn (h : Hn) (f : Nat → Value) : ∀ (n j : Nat), cl (zaD h (zsF n j f)) = (List.range n).map fun i => f (j + i)
 | 0, j => rfl
 | n + 1, j => by
  rw [zsF, zaD, cl, zpn h f n (j + 1), List.range_succ_eq_map, List.map_cons, List.map_map]
  simp only [SC.den, SS.den, SP.den, Chunk.cells, List.singleton_append, Nat.add_zero, List.cons.injEq, true_and]
  exact List.map_congr_left fun i _ => by simp only [Function.comp]; congr 1; omega
theorem zpo (h : Hn) {f : Nat → Value} : ∀ {n j : Nat} {cs : List SC}, zzQ f n j cs → cl (zaD h cs) = (List.range n).map fun i => f (j + i)
 | 0, _, [], _ => rfl
 | 0, _, _ :: _, e => e.elim
 | n + 1, j, [], e => e.elim
 | n + 1, j, .one x :: cs, e => by
  cases x with
  | p x => cases x with
   | v u =>
    rw [zaD, cl, zpo h e.2, List.range_succ_eq_map, List.map_cons, List.map_map]
    simp only [SC.den, SS.den, SP.den, Chunk.cells, List.singleton_append, Nat.add_zero, List.cons.injEq]
    exact ⟨e.1.symm, List.map_congr_left fun i _ => by simp only [Function.comp]; congr 1; omega⟩
   | _ => exact e.elim
  | fn _ _ _ => exact e.elim
 | n + 1, j, .key _ :: cs, e => e.elim
 | n + 1, j, .row _ _ :: cs, e => e.elim
theorem zja {n : Nat} {f : Nat → Value} {cs : List Chunk} (h : cl cs = (List.range n).map fun i => f (0 + i)) : ca cs = ca [.row n f] := by
 unfold ca
 rw [h]
 simp [cl, Chunk.cells]
theorem zsK (hT : zbC P T) (h : tqB T l m R o K C) : zre P N k l m R o K C := by
 unfold tqB at h
 split at h
 ·rename_i op t x y u ho
  split at h
  ·rename_i k1 a k2 b hx hy
   have hx' := zcn hx
   have hy' := zcn hy
   have hk : ∀ {A : Prop}, (bif ikB k1 k2 then A else C) → (k1 = k2 ∧ A) ∨ C := fun {A} h => by
    cases hb : ikB k1 k2 with
    | false => rw [hb] at h; exact .inr h
    | true => rw [hb] at h; exact .inl ⟨of_decide_eq_true hb, h⟩
   split at h
   ·obtain ⟨h0, z, hz, h⟩ := h; exact zaN (sv := zam k1 z) (fun hn w => by
     have := zCH (P := P) (S := zgD) (ws := w) ho (zaf (h := hn) hx') (zaf hy') h0
     rw [hz] at this
     exact this) h
   ·obtain ⟨h0, z, hz, h⟩ := h; exact zaN (sv := zam k1 z) (fun hn w => by
     have := zCI (P := P) (S := zgD) (ws := w) ho (zaf (h := hn) hx') (zaf hy') h0
     rw [hz] at this
     exact this) h
   ·rcases hk h with ⟨rfl, z, hz, h⟩ | h
    ·exact zed ho hx' hy' (by rw [zen, hz]) (fun _ => rfl) h
    ·exact .inr h
   ·rcases hk h with ⟨rfl, z, hz, h⟩ | h
    ·exact zed ho hx' hy' (by rw [zen, hz]) (fun _ => rfl) h
    ·exact .inr h
   ·rcases hk h with ⟨rfl, z, hz, h⟩ | h
    ·exact zed ho hx' hy' (by rw [zen, hz]) (fun _ => rfl) h
    ·exact .inr h
   ·rcases hk h with ⟨rfl, h0, z, hz, h⟩ | h
    ·exact zaN (sv := zam k1 z) (fun hn w => by
      have := zCG (P := P) (S := zgD) (ws := w) ho (zaf (h := hn) hx') (zaf hy') h0
      rw [hz] at this
      exact this) h
    ·exact .inr h
   ·rcases hk h with ⟨rfl, h0, z, hz, h⟩ | h
    ·exact zaN (sv := zam k1 z) (fun hn w => by
      have := zCF (P := P) (S := zgD) (ws := w) ho (zaf (h := hn) hx') (zaf hy') h0
      rw [hz] at this
      exact this) h
    ·exact .inr h
   ·exact .inr h
  ·exact .inr h
 ·rename_i t x ho
  split at h
  ·rename_i k1 a hx
   obtain ⟨z, hz, h⟩ := h
   exact zaN (sv := zam k1 z) (fun hn w => by
     have := zCJ (P := P) (S := zgD) (ws := w) ho (zaf (h := hn) (zcn hx))
     rw [hz] at this
     exact this) h
  ·exact .inr h
 ·rename_i ty x ho
  split at h
  ·rename_i hs
   have hty := zfn hT hs
   split at h
   ·rename_i i off hx
    split at h
    ·rename_i cs hm
     split at h
     ·rename_i v hc
      exact zev (sv := zfM v) (fun hn X a w E H => za0 E ho (zaf (h := hn) hx) hty (zzU H hm (zhu hn hc))) h
     ·exact .inr h
    ·exact .inr h
   ·rename_i i off j s hx
    split at h
    ·rename_i cs hm
     split at h
     ·rename_i n f hr
      cases hb : Nat.beq s 1 with
      | false => simp only [hb, cond_false] at h; exact .inr h
      | true =>
       simp only [hb, cond_true] at h
       obtain rfl := Nat.eq_of_beq_eq_true hb
       exact zev (sv := zfM (f j)) (fun hn X a w E H => za0 E ho (zaf (h := hn) hx) hty (zzU H hm (by rw [Nat.mul_one]; exact zsI hn hr h.1))) h.2
     ·exact .inr h
    ·exact .inr h
   ·exact .inr h
  ·exact .inr h
 ·rename_i t x y ho
  have hok := zhT hT t
  split at h
  ·rename_i n n' f kk z hk hx hy
   rw [hk] at hok
   have hy' := zcn hy
   cases hb : Nat.beq n n' with
   | false => simp only [hb, cond_false] at h; exact .inr h
   | true =>
    simp only [hb, cond_true] at h
    obtain rfl := Nat.eq_of_beq_eq_true hb
    obtain ⟨j, ⟨h1, h2⟩, h⟩ := h
    exact zaN (sv := zfM (f j)) (fun hn w => zpf ho (hok.2 rfl) ((zaf (h := hn) hx).trans rfl) (zaf hy') h1 h2) h
  ·rename_i b kk z hk hx hy
   rw [hk] at hok
   have hy' := zcn hy
   obtain ⟨j, ⟨h1, h2⟩, h⟩ := h
   refine zaN (sv := zfM (bv (b.getD j 0))) (fun hn w => zpf (f := fun i => bv (b.getD i 0)) ho hok.2.2 ((zaf (h := hn) hx).trans ?_) (zaf hy') h1 h2) h
   show some (Value.agg (ca [.key b])) = _
   rw [zja (n := 32) (f := fun i => bv (b.getD i 0)) (cs := [.key b]) (by simp [cl, Chunk.cells, zgC])]
  ·exact .inr h
 ·rename_i ty parts ho
  have hok := zhT hT ty
  split at h
  ·rename_i n n' f0 hk hz
   rw [hk] at hok
   cases hb : Nat.beq n n' with
   | false => simp only [hb, cond_false] at h; exact .inr h
   | true =>
    simp only [hb, cond_true] at h
    obtain rfl := Nat.eq_of_beq_eq_true hb
    split at h
    ·rename_i r hr
     obtain ⟨f, h1, h⟩ := h
     refine zaN (sv := .a (.agg [.row n f])) (fun hn w => zf2 (z := zaD hn (zsF n 0 f0)) [.row n f] ho hok.1 ?_ (zf5 (fun i x hi => hi) hr) (zja (zpo hn h1))) h
     rw [zrc hT hz hn, zja (zpn hn f0 n 0)]
     rfl
    ·exact .inr h
  ·exact .inr h
 ·exact .inr h
theorem zpp (hT : zbC P T) (h : tq T k l m R o K C) : zre P N k l m R o K C := by
 rcases zsH (N := N) hT h with h | h
 ·exact .inl h
 ·exact zsK hT h
end
end
section
open Go.RowKit
section
variable {P : Program} {Q : Exit → Act → World → Prop} {l : List Oper} {n : Nat} {a : Act}
def zjZ (n len : Nat) : Array Bool := (List.replicate n true ++ List.replicate (len - n) false).toArray
theorem zfo {id : Nat} {w : World} (Tl : Act → World → Prop) (n : Nat) (ps : List (List Nat)) (Inv : Array Bool → Act → World → Prop) (hm : P.follows .mixedOrders = true) (hn : n < l.length) (hp : ps.length = n) (hps : zhH l 0 ps = true) (hwt : ∀ listed : Array Bool, HeadInv .any l.toArray n listed → ∀ i, i < n → listed.getD i true = false → ∀ t, n ≤ t → t ∉ Region.ready .any l.toArray listed)
  (htl : ∀ a w, Tl a w → wpAny P .any l.toArray Q (l.toArray.size - n) (zjZ n l.length) a w)
  (h0 : Inv (Array.replicate l.length false) a w.drew)
  (hstep : ∀ (listed : Array Bool) (a' : Act) (w' : World) (j : Nat) (oj : Oper) (js : List Nat), j < n → l[j]? = some oj → ps[j]? = some js → listed.size = l.length → listed.getD j true = false → (∀ k ∈ js, k < j ∧ listed.getD k true = true) → Inv listed a' w' →
   (if Region.wanted oj (yielded l.toArray a'.tmps) then oj.wp P a' w' (fun a2 w2 => Inv (listed.setIfInBounds j true) a2 w2) Q else Inv (listed.setIfInBounds j true) (a'.put oj.dst undef) w'))
  (hend : ∀ (listed : Array Bool) (a' : Act) (w' : World), (∀ i, i < n → listed.getD i true = true) → Inv listed a' w' → Tl a' w') : (Code.region id l.toArray true).wp P Q a w := by
 have hn' : n < l.toArray.size := by simpa using hn
 have inv0 : HeadInv .any l.toArray n (Array.replicate l.toArray.size false) :=
  ⟨by simp, fun j oj _ hl => (by rw [getD_replicate_false] at hl; cases hl), fun t _ ht => getD_in (by simpa using ht) (getD_replicate_false _ _)⟩
 have main : ∀ (f : Nat) (listed : Array Bool) (a' : Act) (w' : World), HeadInv .any l.toArray n listed → zjG n listed = f → Inv listed a' w' →
   wpAnyC P .any l.toArray Q (fun _ => True) n (fun listed' a' w' => listed' = zjZ n l.length ∧ Tl a' w') f listed a' w' := by
  intro f
  induction f with
  | zero =>
   intro listed a' w' inv hr hI
   refine ⟨?_, hend listed a' w' (zk2 n listed hr) hI⟩
   have e : listed = (List.replicate n true ++ List.replicate (l.length - n) false).toArray := by
    apply Array.ext_getElem?
    intro i
    have hsz := inv.size
    simp only [List.size_toArray] at hsz
    by_cases hi : i < n
    ·have h1 := zk2 n listed hr i hi
     have h2 : i < listed.size := by omega
     simp [h2] at h1
     simp [List.getElem?_append, hi, h2, h1]
    ·by_cases hi2 : i < l.length
     ·have h1 := inv.tail i (by omega) (by simpa using hi2)
      have h2 : i < listed.size := by omega
      simp [h2] at h1
      simp only [jL, List.getElem?_append, List.length_replicate, hi, if_false, List.getElem?_replicate]
      rw [if_pos (by omega), Array.getElem?_eq_getElem h2, h1]
     ·rw [Array.getElem?_eq_none (by omega)]
      simp only [jL, List.getElem?_append, List.length_replicate, hi, if_false, List.getElem?_replicate]
      rw [if_neg (by omega)]
   exact e
  | succ f ih =>
   intro listed a' w' inv hr hI
   obtain ⟨i, hi, hil, hmin⟩ := zwk n listed hr
   refine ⟨?_, fun j hj => ?_⟩
   ·intro h0
    obtain ⟨o, ho, he, _⟩ := zgE l ps 0 hps i ps[i] (by simp)
    have : i ∈ Region.ready .any l.toArray listed := mem_ready.2 ⟨hil, o, by simpa using ho, fun e hee hbe => by
     have h1 := he e hee hbe
     have h2 := hmin e.on (by omega)
     have h3 : e.on < listed.size := by rw [inv.size]; simp; omega
     simp [h3] at h2 ⊢
     exact h2⟩
    rw [h0] at this
    cases this
   ·have hjn : j < n := by
     rcases Nat.lt_or_ge j n with h | h
     ·exact h
     ·exact absurd hj (hwt listed inv i hi hil j h)
    refine ⟨hjn, ?_⟩
    obtain ⟨hjl, oj, hoj, hall⟩ := mem_ready.1 hj
    have hoj' : l[j]? = some oj := by simpa using hoj
    have hjp : j < ps.length := by omega
    obtain ⟨oj', hoj2, hlt, hpj⟩ := zgE l ps 0 hps j ps[j] (by simp [hjp])
    obtain rfl : oj' = oj := by
     rw [Nat.zero_add, hoj'] at hoj2
     exact (Option.some.inj hoj2).symm
    have hsz : listed.size = l.length := by have := inv.size; simpa using this
    have hst := hstep listed a' w' j oj' ps[j] hjn hoj' (by simp [hjp]) hsz hjl (fun k hk => by
     obtain ⟨e, hee, hbe, hek⟩ := hpj k hk
     have h1 := hall e hee hbe
     have h2 := hlt e hee hbe
     rw [hek] at h1 h2
     refine ⟨by omega, ?_⟩
     have h3 : k < listed.size := by omega
     simp [h3] at h1 ⊢
     exact h1) hI
    have go : ∀ (a2 : Act) (w2 : World), Inv (listed.setIfInBounds j true) a2 w2 →
      wpAnyC P .any l.toArray Q (fun _ => True) n (fun listed' a' w' => listed' = zjZ n l.length ∧ Tl a' w') f (listed.setIfInBounds j true) a2 w2 := fun a2 w2 h2 => by
     refine ih _ _ _ (inv.set hj hjn) ?_ h2
     have := zwj n listed j hjn hjl
     omega
    unfold wpOp
    simp only [hoj]
    split
    ·rename_i hw
     rw [if_pos hw] at hst
     exact .inl (Oper.wp_mono (fun a2 w2 h => ⟨trivial, go a2 w2 h⟩) hst)
    ·rename_i hw
     rw [if_neg hw] at hst
     exact ⟨trivial, go _ _ hst⟩
 have H := main n (Array.replicate l.toArray.size false) a w.drew inv0 (by
  unfold zjG
  rw [List.filter_eq_self.2 (fun i hi => ?_)]
  ·simp
  ·have := List.mem_range.1 hi
   have : i < l.length := by omega
   simp [this]) (by simpa using h0)
 refine wp_region_any hm ?_
 have := wpAny_of_anyC (g := l.toArray.size - n) (fun listed a' w' hL => by
  obtain ⟨rfl, hL⟩ := hL
  exact htl a' w' hL) _ _ _ _ H
 rw [show n + (l.toArray.size - n) = l.toArray.size by omega] at this
 exact this
theorem zj0 {id : Nat} {w : World} (n : Nat) (ps : List (List Nat)) (Inv : Array Bool → Act → World → Prop) (hm : P.follows .mixedOrders = true) (hB : zr7 l n ps = true)
  (h0 : Inv (Array.replicate l.length false) a w.drew)
  (hstep : ∀ (listed : Array Bool) (a' : Act) (w' : World) (j : Nat) (oj : Oper) (js : List Nat), j < n → l[j]? = some oj → ps[j]? = some js → listed.size = l.length → listed.getD j true = false → (∀ k ∈ js, k < j ∧ listed.getD k true = true) → Inv listed a' w' →
   (if Region.wanted oj (yielded l.toArray a'.tmps) then oj.wp P a' w' (fun a2 w2 => Inv (listed.setIfInBounds j true) a2 w2) Q else Inv (listed.setIfInBounds j true) (a'.put oj.dst undef) w'))
  (hend : ∀ (listed : Array Bool) (a' : Act) (w' : World), (∀ i, i < n → listed.getD i true = true) → Inv listed a' w' → wpList P l.toArray Q (l.drop n) a' w') : (Code.region id l.toArray true).wp P Q a w := by
 simp only [zr7, Bool.and_eq_true, jS] at hB
 obtain ⟨⟨⟨⟨⟨⟨⟨hsel, hn⟩, hp⟩, hs⟩, hc⟩, hd⟩, hps⟩, hseq⟩ := hB
 refine zfo (fun a' w' => wpList P l.toArray Q (l.drop n) a' w') n ps Inv hm hn hp hps (fun listed inv i hi hil t ht => tail_waits hs hc (by simpa using hn) inv _ i rfl hi hil t ht) (fun a' w' hL => ?_) h0 hstep hend
 have hdl : (l.drop n).length = l.toArray.size - n := by simp
 have := wpAny_of_seq (md := .any) (Q' := Q) (l.drop n) n (zjZ n l.length) a' w' (fun j => by simp [List.getElem?_drop]) (by rw [hdl]; simpa [zjZ] using hseq) hL
 rwa [hdl] at this
def zzV (ops : Array Oper) (n t : Nat) : Bool := (List.range n).all fun i => ((List.range n).any fun j => decide (i < j) && Region.waitsFor .any ops j i) || Region.waitsFor .any ops t i
def zpq (l : List Oper) (n : Nat) (ps : List (List Nat)) : Bool :=
 Region.noSelect l.toArray && decide (n + 2 = l.length) && decide (ps.length = n) && zzV l.toArray n n && zzV l.toArray n (n + 1) && zjF (l.take n) && zhH l 0 ps &&
  decide (Region.ready .any l.toArray (zjZ n l.length) = [n, n + 1]) && decide (Region.ready .any l.toArray ((zjZ n l.length).setIfInBounds n true) = [n + 1]) && decide (Region.ready .any l.toArray ((zjZ n l.length).setIfInBounds (n + 1) true) = [n]) && decide (Region.ready .any l.toArray (((zjZ n l.length).setIfInBounds n true).setIfInBounds (n + 1) true) = [])
theorem zhV {t0 : Nat} {listed : Array Bool} (hs : zzV l.toArray n t0 = true) (hn : n ≤ l.length) (inv : HeadInv .any l.toArray n listed) : ∀ (d i : Nat), n - i = d → i < n → listed.getD i true = false → t0 ∉ Region.ready .any l.toArray listed := by
 intro d
 induction d using Nat.strongRecOn with
 | _ d ih =>
  intro i hd hi hun hr
  obtain ⟨_, ot, hot, hall⟩ := mem_ready.1 hr
  have h1 := List.all_eq_true.1 hs i (List.mem_range.2 hi)
  rw [Bool.or_eq_true] at h1
  rcases h1 with h1 | h1
  ·obtain ⟨j, hj, hj2⟩ := List.any_eq_true.1 h1
   simp only [Bool.and_eq_true, jS] at hj2
   obtain ⟨oj, hoj, e, he, hb, hon⟩ := Region.waitsFor_spec hj2.2
   have hjn := List.mem_range.1 hj
   cases hl : listed.getD j false with
   | true =>
    have h2 := inv.closed j oj hoj hl e he hb
    rw [hon, getD_both hun] at h2
    cases h2
   | false =>
    have hjs : j < listed.size := by rw [inv.size]; simp; omega
    exact ih (n - j) (by omega) j rfl hjn (getD_in hjs hl) hr
  ·obtain ⟨oj, hoj, e, he, hb, hon⟩ := Region.waitsFor_spec h1
   have : oj = ot := Option.some.inj (hoj.symm.trans hot)
   subst this
   have h2 := hall e he hb
   rw [hon, getD_both hun] at h2
   cases h2
theorem zi1 {id : Nat} {w : World} (n : Nat) (ps : List (List Nat)) (Inv : Array Bool → Act → World → Prop) (hm : P.follows .mixedOrders = true) (hB : zpq l n ps = true)
  (h0 : Inv (Array.replicate l.length false) a w.drew)
  (hstep : ∀ (listed : Array Bool) (a' : Act) (w' : World) (j : Nat) (oj : Oper) (js : List Nat), j < n → l[j]? = some oj → ps[j]? = some js → listed.size = l.length → listed.getD j true = false → (∀ k ∈ js, k < j ∧ listed.getD k true = true) → Inv listed a' w' →
   (if Region.wanted oj (yielded l.toArray a'.tmps) then oj.wp P a' w' (fun a2 w2 => Inv (listed.setIfInBounds j true) a2 w2) Q else Inv (listed.setIfInBounds j true) (a'.put oj.dst undef) w'))
  (hend : ∀ (listed : Array Bool) (a' : Act) (w' : World), (∀ i, i < n → listed.getD i true = true) → Inv listed a' w' → ∃ x y, l.drop n = [x, y] ∧ wpList P l.toArray Q [x, y] a' w' ∧ wpList P l.toArray Q [y, x] a' w') : (Code.region id l.toArray true).wp P Q a w := by
 simp only [zpq, Bool.and_eq_true, jS] at hB
 obtain ⟨⟨⟨⟨⟨⟨⟨⟨⟨⟨hsel, hn⟩, hp⟩, hs1⟩, hs2⟩, hd⟩, hps⟩, r0⟩, r1⟩, r2⟩, r3⟩ := hB
 refine zfo (fun a' w' => ∃ x y, l.drop n = [x, y] ∧ wpList P l.toArray Q [x, y] a' w' ∧ wpList P l.toArray Q [y, x] a' w') n ps Inv hm (by omega) hp hps (fun listed inv i hi hil t ht hr => ?_) (fun a' w' hL => ?_) h0 hstep hend
 ·obtain ⟨_, ot, hot, _⟩ := mem_ready.1 hr
  have htl : t < l.length := by have := (Array.getElem?_eq_some_iff.1 hot).1; simpa using this
  by_cases h : t = n
  ·subst h; exact zhV hs1 (by omega) inv _ i rfl hi hil hr
  ·obtain rfl : t = n + 1 := by omega
   exact zhV hs2 (by omega) inv _ i rfl hi hil hr
 ·obtain ⟨x, y, hxy, hL1, hL2⟩ := hL
  have hx : l.toArray[n]? = some x := by
    have : (l.drop n)[0]? = some x := by rw [hxy]; rfl
    rw [List.getElem?_drop] at this
    simpa using this
  have hy : l.toArray[n + 1]? = some y := by
    have : (l.drop n)[1]? = some y := by rw [hxy]; rfl
    rw [List.getElem?_drop] at this
    simpa using this
  have sz : l.toArray.size - n = 2 := by simp; omega
  rw [sz]
  have one : ∀ (listed : Array Bool) (i : Nat) (o : Oper) (a' : Act) (w' : World), l.toArray[i]? = some o → Region.ready .any l.toArray listed = [i] → Region.ready .any l.toArray (listed.setIfInBounds i true) = [] → wpList P l.toArray Q [o] a' w' → wpAny P .any l.toArray Q 1 listed a' w' := fun listed i o a' w' ho hr hr2 hw => by
   refine ⟨fun h1 => (by rw [hr] at h1; cases h1), fun i' hi' => ?_⟩
   rw [hr] at hi'
   obtain rfl : i' = i := by simpa using hi'
   have hw' : wpOp P l.toArray Q i' (wpList P l.toArray Q []) a' w' := by unfold wpOp; simp only [ho]; exact hw
   exact wpOp_mono (fun a2 w2 h' => ⟨hr2, h'⟩) hw'
  refine ⟨fun h1 => (by rw [r0] at h1; cases h1), fun i hi => ?_⟩
  rw [r0] at hi
  rcases List.mem_cons.1 hi with rfl | hi
  ·have hw' : wpOp P l.toArray Q i (wpList P l.toArray Q [y]) a' w' := by unfold wpOp; simp only [hx]; exact hL1
   exact wpOp_mono (fun a2 w2 h' => one _ _ y a2 w2 hy r1 r3 h') hw'
  ·obtain rfl : i = n + 1 := by simpa using hi
   have hw' : wpOp P l.toArray Q (n + 1) (wpList P l.toArray Q [x]) a' w' := by unfold wpOp; simp only [hy]; exact hL2
   exact wpOp_mono (fun a2 w2 h' => one _ _ x a2 w2 hx r2 (by rw [Array.setIfInBounds_comm _ _ (by omega)]; exact r3) h') hw'
def frB (two : Bool) (l : List Oper) (n : Nat) (ps : List (List Nat)) : Bool := bif two then zpq l n ps else zr7 l n ps
def zsL (two : Bool) (os : List Oper) (f : List Oper → Prop) : Prop := match two, os with
 | false, os => f os
 | true, [x, y] => f [x, y] ∧ f [y, x]
 | true, _ => False
theorem zrf {two : Bool} {os : List Oper} {f g : List Oper → Prop} (h : ∀ os, f os → g os) (hf : zsL two os f) : zsL two os g := by
 unfold zsL at *
 split at hf
 ·exact h _ hf
 ·exact ⟨h _ hf.1, h _ hf.2⟩
 ·exact hf.elim
theorem zC0 {two : Bool} {ps : List (List Nat)} (h : frB two l n ps = true) : n < l.length ∧ ps.length = n ∧ zjF (l.take n) = true := by
 cases two with
 | false =>
  simp only [frB, cond_false, zr7, Bool.and_eq_true, jS] at h
  obtain ⟨⟨⟨⟨⟨⟨⟨_, h1⟩, h2⟩, _⟩, _⟩, h3⟩, _⟩, _⟩ := h
  exact ⟨h1, h2, h3⟩
 | true =>
  simp only [frB, cond_true, zpq, Bool.and_eq_true, jS] at h
  obtain ⟨⟨⟨⟨⟨⟨⟨⟨⟨⟨_, h1⟩, h2⟩, _⟩, _⟩, h3⟩, _⟩, _⟩, _⟩, _⟩, _⟩ := h
  exact ⟨by omega, h2, h3⟩
theorem zi2 {id : Nat} {w : World} (two : Bool) (n : Nat) (ps : List (List Nat)) (Inv : Array Bool → Act → World → Prop) (hm : P.follows .mixedOrders = true) (hB : frB two l n ps = true)
  (h0 : Inv (Array.replicate l.length false) a w.drew)
  (hstep : ∀ (listed : Array Bool) (a' : Act) (w' : World) (j : Nat) (oj : Oper) (js : List Nat), j < n → l[j]? = some oj → ps[j]? = some js → listed.size = l.length → listed.getD j true = false → (∀ k ∈ js, k < j ∧ listed.getD k true = true) → Inv listed a' w' →
   (if Region.wanted oj (yielded l.toArray a'.tmps) then oj.wp P a' w' (fun a2 w2 => Inv (listed.setIfInBounds j true) a2 w2) Q else Inv (listed.setIfInBounds j true) (a'.put oj.dst undef) w'))
  (hend : ∀ (listed : Array Bool) (a' : Act) (w' : World), (∀ i, i < n → listed.getD i true = true) → Inv listed a' w' → zsL two (l.drop n) fun os => wpList P l.toArray Q os a' w') : (Code.region id l.toArray true).wp P Q a w := by
 cases two with
 | false => exact zj0 n ps Inv hm hB h0 hstep hend
 | true =>
  refine zi1 n ps Inv hm hB h0 hstep fun listed a' w' hl hI => ?_
  have := hend listed a' w' hl hI
  generalize l.drop n = os at this
  match os, this with
  | [x, y], h => exact ⟨x, y, rfl, h.1, h.2⟩
  | [], h => exact h.elim
  | [_], h => exact h.elim
  | _ :: _ :: _ :: _, h => exact h.elim
end
end
section
open Go.RowKit
abbrev LE := List (Nat × SV)
abbrev KS := Nat → LE → MB → List SF → Prop
def zFD : Option SV → Option Bool
 | some (.a (.s (.p (.v (.tuple _))))) => some false
 | _ => none
def gdS (ops : Array Oper) (l : LE) (o : Oper) : Option Bool :=
 match o.guard with
 | none => some true
 | some (j, want) => match (ops[j]?).bind (·.dst) with
  | some d => match asBool (zbJ l d) with
   | some b => some (match want with | true => b | false => !b)
   | none => zFD (zbJ l d)
  | none => none
def lt_ (k : Nat) (i : Nat) : Bool := Nat.ble (i + 1) k
def zcj (P : Program) (N k : Nat) (l : LE) (m : MB) (R : List SF) (o : Oper) (sv : SV) (m' : MB) (R' : List SF) : Prop :=
 ∀ (Q : Exit → Act → World → Prop) (h : Hn) (X : List Nat) (a : Act) (w : World), Env a N (zcd h l) → Sp X w (zae h [] m) (zaT h R) → ∀ Kk : Act → World → Prop,
  (∀ h1 w', AgS (lt_ k) h h1 → Frm (zad (zae h [] m)) w w' → Sp X w' (zae h1 [] m') (zaT h1 R') → (∀ j ∈ zad (zae h1 [] m'), j ∈ zad (zae h [] m) ∨ w.heap.size ≤ j) → Kk (a.put o.dst (sv.den h1)) w') → o.wp P a w Kk Q
def AgB (S : Nat → Bool) (h h' : Hn) : Prop := ∀ i, S i = true → h'.b i = h.b i ∧ h'.r i = h.r i
theorem AgS.b {S : Nat → Bool} {h h' : Hn} (ha : AgS S h h') : AgB S h h' := fun i hi => ⟨(ha i hi).1, (ha i hi).2.1⟩
def zzW (P : Program) (N k : Nat) (l : LE) (m : MB) (R : List SF) (o : Oper) (sv : SV) (m' : MB) (R' : List SF) : Prop :=
 ∀ (Q : Exit → Act → World → Prop) (h : Hn) (X : List Nat) (a : Act) (w : World), Env a N (zcd h l) → Sp X w (zae h [] m) (zaT h R) → ∀ Kk : Act → World → Prop,
  (∀ h1 w', AgB (lt_ k) h h1 → Frm (zad (zae h [] m)) w w' → Sp X w' (zae h1 [] m') (zaT h1 R') → (∀ j ∈ zad (zae h1 [] m'), j ∈ zad (zae h [] m) ∨ w.heap.size ≤ j) → Kk (a.put o.dst (sv.den h1)) w') → o.wp P a w Kk Q
theorem zcj.q {P : Program} {N k : Nat} {l : LE} {m : MB} {R : List SF} {o : Oper} {sv : SV} {m' : MB} {R' : List SF} (hs : zcj P N k l m R o sv m' R') : zzW P N k l m R o sv m' R' := fun Q h X a w E H Kk hK => hs Q h X a w E H Kk fun h1 w' ha => hK h1 w' ha.b
section
variable {S : Nat → Bool} {h h' : Hn}
theorem SP.sameB (ha : AgB S h h') {x : SP} (hw : x.wf S = true) : x.den h' = x.den h := by
 cases x with
 | v x => rfl
 | at_ i off => simp only [SP.den, (ha i hw).1]
 | sl i off n c => simp only [SP.den, (ha i hw).1]
 | hd i n => simp only [SP.den, (ha i hw).2]
 | hp i j sz off => simp only [SP.den, (ha i hw).2]
 | ap i off j sz => simp only [SP.den, (ha i hw).1]
theorem zgI (ha : AgB S h h') : ∀ {xs : List SP}, wfP S xs = true → zhh h' xs = zhh h xs
 | [], _ => rfl
 | x :: xs, hw => by unfold zhh; rw [SP.sameB ha (zab hw).1, zgI ha (zab hw).2]
theorem SS.sameB (ha : AgB S h h') {x : SS} (hw : x.wf S = true) : x.den h' = x.den h := by
 cases x with
 | p x => exact SP.sameB ha hw
 | fn f fs cs => simp only [SS.den, zgI ha (zab hw).1, zgI ha (zab hw).2]
theorem SC.sameB (ha : AgB S h h') {x : SC} (hw : x.wf S = true) : x.den h' = x.den h := by
 cases x with
 | one x => simp only [SC.den, SS.sameB ha hw]
 | key l => rfl
 | row n f => rfl
theorem zjb (ha : AgB S h h') : ∀ {xs : List SC}, wfC S xs = true → zaD h' xs = zaD h xs
 | [], _ => rfl
 | x :: xs, hw => by unfold zaD; rw [SC.sameB ha (zab hw).1, zjb ha (zab hw).2]
theorem SA.sameB (ha : AgB S h h') {x : SA} (hw : x.wf S = true) : x.den h' = x.den h := by
 cases x with
 | s x => exact SS.sameB ha hw
 | agg cs => simp only [SA.den, zjb ha hw]
theorem zjc (ha : AgB S h h') : ∀ {xs : List SA}, wfT S xs = true → zjN h' xs = zjN h xs
 | [], _ => rfl
 | x :: xs, hw => by unfold zjN; rw [SA.sameB ha (zab hw).1, zjc ha (zab hw).2]
theorem SV.sameB (ha : AgB S h h') {x : SV} (hw : x.wf S = true) : x.den h' = x.den h := by
 cases x with
 | a x => exact SA.sameB ha hw
 | tup xs => simp only [SV.den, zjc ha hw]
theorem zjd (ha : AgB S h h') : ∀ {l : List (Nat × SV)}, wfE S l = true → zcd h' l = zcd h l
 | [], _ => rfl
 | (d, x) :: l, hw => by unfold zcd; rw [SV.sameB ha (zab hw).1, zjd ha (zab hw).2]
end
def zzX : List SC → Prop → Prop
 | [], A => A
 | .one x :: cs, A => bif okS x then zzX cs A else False
 | .key _ :: cs, A => zzX cs A
 | .row n f :: cs, A => (∀ i, i < n → (f i).oneCell' = true) ∧ zzX cs A
def zje (N : Nat) (dst : Option Nat) (sv : SV) (l : LE) (K : LE → Prop) : Prop := match dst with | some d => bif Nat.ble (d + 1) N then K ((d, sv) :: l) else False | none => K l
def okN (k k' : Nat) (sv : SV) (m' : MB) (R' : List SF) : Bool := bif Nat.ble k k' then (bif sv.wf (lt_ k') then (bif wfM (lt_ k') m' then wfR (lt_ k') R' else false) else false) else false
def zeg (P : Program) (N : Nat) (o : Oper) (k : Nat) (l : LE) (m : MB) (R : List SF) (K : KS) : Prop :=
 ∃ (sv : SV) (k' : Nat) (m' : MB) (R' : List SF), zzW P N k l m R o sv m' R' ∧ (bif okN k k' sv m' R' then zje N o.dst sv l (fun l' => K k' l' m' R') else False)
def vOp (P : Program) (T : Tab) (N : Nat) (o : Oper) (k : Nat) (l : LE) (m : MB) (R : List SF) (K : KS) : Prop :=
 match o.op with
 | .store ty x y => match zn6 (evS l x), zf4 (evS l y), szT T ty with
  | some (.own i off), some new, some (n, _) => match zaA m i with
   | some (.blk cs t) => bif zfi new n then (match zr3 cs off n new with
    | some cs' => bif lt_ k i then (bif wfC (lt_ k) cs' then zzX new (zje N o.dst (zeq undef) l fun l' => K k l' ((i, .blk cs' t) :: m) R) else zeg P N o k l m R K) else zeg P N o k l m R K
    | none => zeg P N o k l m R K) else zeg P N o k l m R K
   | _ => zeg P N o k l m R K
  | _, _, _ => zeg P N o k l m R K
 | _ => tq T k l m R o (fun sv rs => match rs with
   | [] => bif sv.wf (lt_ k) then zje N o.dst sv l (fun l' => K k l' m R) else False
   | [q] => zbN (k + 1) fun k' => bif sv.wf (lt_ k') then (bif q.wf (lt_ k') then zje N o.dst sv l (fun l' => K k' l' ((k, q) :: m) R) else False) else False
   | _ => False) (zeg P N o k l m R K)
def zr5 (P : Program) (T : Tab) (N : Nat) (ops : Array Oper) : List Oper → Nat → LE → MB → List SF → KS → Prop
 | [], k, l, m, R, K => K k l m R
 | o :: os, k, l, m, R, K => match gdS ops l o with
  | some b => cond b (vOp P T N o k l m R fun k l m R => zr5 P T N ops os k l m R K) (zje N o.dst (zeq undef) l fun l => zr5 P T N ops os k l m R K)
  | none => False
structure VSt (N : Nat) (X G : List Nat) (w0 : World) (k : Nat) (l : LE) (m : MB) (R : List SF) (h : Hn) (a : Act) (w : World) : Prop where
 env : Env a N (zcd h l)
 sp : Sp X w (zae h [] m) (zaT h R)
 frm : Frm G w0 w
 mine : ∀ j ∈ zad (zae h [] m), j ∈ G ∨ w0.heap.size ≤ j
 wl : wfE (lt_ k) l = true
 wm : wfM (lt_ k) m = true
 wr : wfR (lt_ k) R = true
section
variable {S S' : Nat → Bool}
theorem zaz {b c : Bool} (h1 : b = true) (h2 : c = true) : (bif b then c else false) = true := by rw [h1, h2]; rfl
theorem SP.wmono (hS : ∀ i, S i = true → S' i = true) {x : SP} (h : x.wf S = true) : x.wf S' = true := by cases x <;> first | rfl | exact hS _ h
theorem zj1 (hS : ∀ i, S i = true → S' i = true) : ∀ {xs : List SP}, wfP S xs = true → wfP S' xs = true
 | [], _ => rfl
 | x :: xs, h => zaz (SP.wmono hS (zab h).1) (zj1 hS (zab h).2)
theorem SS.wmono (hS : ∀ i, S i = true → S' i = true) {x : SS} (h : x.wf S = true) : x.wf S' = true := by
 cases x with
 | p x => exact SP.wmono hS h
 | fn f fs cs => exact zaz (zj1 hS (zab h).1) (zj1 hS (zab h).2)
theorem zd5 (hS : ∀ i, S i = true → S' i = true) : ∀ {xs : List SC}, wfC S xs = true → wfC S' xs = true
 | [], _ => rfl
 | .one x :: xs, h => zaz (SS.wmono hS (zab h).1) (zd5 hS (zab h).2)
 | .key _ :: xs, h => zaz rfl (zd5 hS (zab h).2)
 | .row _ _ :: xs, h => zaz rfl (zd5 hS (zab h).2)
theorem SA.wmono (hS : ∀ i, S i = true → S' i = true) {x : SA} (h : x.wf S = true) : x.wf S' = true := by
 cases x with
 | s x => exact SS.wmono hS h
 | agg cs => exact zd5 hS h
theorem zpr (hS : ∀ i, S i = true → S' i = true) : ∀ {xs : List SA}, wfT S xs = true → wfT S' xs = true
 | [], _ => rfl
 | x :: xs, h => zaz (SA.wmono hS (zab h).1) (zpr hS (zab h).2)
theorem SV.wmono (hS : ∀ i, S i = true → S' i = true) {x : SV} (h : x.wf S = true) : x.wf S' = true := by
 cases x with
 | a x => exact SA.wmono hS h
 | tup xs => exact zpr hS h
theorem zps (hS : ∀ i, S i = true → S' i = true) : ∀ {l : LE}, wfE S l = true → wfE S' l = true
 | [], _ => rfl
 | p :: l, h => zaz (SV.wmono hS (zab h).1) (zps hS (zab h).2)
theorem RB.wmono (hS : ∀ i, S i = true → S' i = true) {x : RB} (h : x.wf S = true) : x.wf S' = true := by
 cases x with
 | gone => rfl
 | blk cs t => exact zd5 hS h
 | row e sz n xs => rfl
theorem zc5 (hS : ∀ i, S i = true → S' i = true) : ∀ {m : MB}, wfM S m = true → wfM S' m = true
 | [], _ => rfl
 | p :: m, h => zaz (hS _ (zab h).1) (zaz (RB.wmono hS (zab (zab h).2).1) (zc5 hS (zab (zab h).2).2))
theorem zb6 (hS : ∀ i, S i = true → S' i = true) : ∀ {R : List SF}, wfR S R = true → wfR S' R = true
 | [], _ => rfl
 | .c _ :: R, h => zaz rfl (zb6 hS (zab h).2)
 | .h i _ :: R, h => zaz (hS i (zab h).1) (zb6 hS (zab h).2)
 | .sl i _ _ :: R, h => zaz (hS i (zab h).1) (zb6 hS (zab h).2)
 | .b i _ :: R, h => zaz (hS i (zab h).1) (zb6 hS (zab h).2)
 | .q i _ :: R, h => zaz (hS i (zab h).1) (zb6 hS (zab h).2)
 | .nm i _ :: R, h => zaz (hS i (zab h).1) (zb6 hS (zab h).2)
 | .blk i cs :: R, h => zaz (zaz (hS i (zab (zab h).1).1) (zd5 hS (zab (zab h).1).2)) (zb6 hS (zab h).2)
theorem zdf {k k' : Nat} (h : k ≤ k') : ∀ i, lt_ k i = true → lt_ k' i = true := fun i hi => by
 have : i + 1 ≤ k := Nat.le_of_ble_eq_true hi
 exact Nat.ble_eq_true_of_le (by omega)
end
theorem zgJ {h : Hn} : ∀ {cs : List SC} {A : Prop}, zzX cs A → zo9 (zaD h cs) ∧ A
 | [], A, hA => ⟨trivial, hA⟩
 | .one x :: cs, A, hA => by
  unfold zzX at hA
  cases hb : okS x with
  | false => rw [hb] at hA; exact hA.elim
  | true =>
   rw [hb] at hA
   have := zgJ (h := h) hA
   exact ⟨⟨zn8 hb, this.1⟩, this.2⟩
 | .key k :: cs, A, hA => zgJ (cs := cs) hA
 | .row n f :: cs, A, hA => ⟨⟨hA.1, (zgJ hA.2).1⟩, (zgJ (h := h) hA.2).2⟩
section
variable {P : Program} {T : Tab} {N k : Nat} {X G : List Nat} {w0 w : World} {l : LE} {m : MB} {R : List SF} {h : Hn} {a : Act} {o : Oper} {Q : Exit → Act → World → Prop} {K : KS}
theorem zdT {ops : Array Oper} {b : Bool} (E : Env a N (zcd h l)) (e : gdS ops l o = some b) : Region.wanted o (yielded ops a.tmps) = b := by
 unfold gdS at e
 split at e
 ·rename_i hg
  exact zfS E (by unfold gd; rw [hg]; exact e)
 ·rename_i j want hg
  split at e
  ·rename_i d hd
   split at e
   ·rename_i c hc
    refine zfS E ?_
    have := zaZ h l d _ (zet hc)
    unfold gd
    rw [hg]
    dsimp only
    rw [hd]
    dsimp only
    rw [this, ← e]
    show some (c == want) = _
    cases c <;> cases want <;> rfl
   ·unfold zFD at e
    split at e
    ·rename_i xs hl
     obtain rfl := Option.some.inj e
     have hv := E.val d _ (zaZ h l d _ hl)
     unfold Region.wanted yielded
     rw [hg]
     dsimp only
     rw [hd]
     simp only [jN] at hv
     cases hq : a.tmps[d]? with
     | none => simp [hq]
     | some u =>
      rw [hq] at hv
      have hu : u = .tuple xs := hv
      subst hu
      simp [hq]
    ·cases e
  ·cases e
theorem VSt.put {sv : SV} {dst : Option Nat} {J : LE → Prop} (H : VSt N X G w0 k l m R h a w) (hw : sv.wf (lt_ k) = true) (hp : zje N dst sv l J) : ∃ l', J l' ∧ VSt N X G w0 k l' m R h (a.put dst (sv.den h)) w := by
 unfold zje at hp
 split at hp
 ·rename_i d
  cases hb : Nat.ble (d + 1) N with
  | false => rw [hb] at hp; exact hp.elim
  | true =>
   rw [hb] at hp
   exact ⟨_, hp, ⟨H.env.put hb, H.sp, H.frm, H.mine, zaz hw H.wl, H.wm, H.wr⟩⟩
 ·exact ⟨l, hp, H⟩
theorem zwF {w' : World} (H : VSt N X G w0 k l m R h a w) (F : Frm (zad (zae h [] m)) w w') : Frm G w0 w' := H.frm.trans F fun k hk => by
 rcases H.mine k hk with h1 | h1
 ·exact .inl h1
 ·exact .inr h1
theorem zbG {k i : Nat} (h : lt_ k i = true) : i < k := Nat.le_of_ble_eq_true h
theorem zan {sv : SV} {rs : List RB} {Rs : List SF} (ht : zfv P N k l m R o sv rs Rs) (wm : wfM (lt_ k) m = true) (wr : wfR (lt_ k) R = true) : zcj P N k l m R o sv (zhi k rs m) (Rs ++ R) := fun Q h X a w E H Kk hK =>
 ht Q h X a w E H Kk fun h1 w' ha F S => by
  have hag : AgS (lt_ k) h h1 := fun i hi => ha i (.inl (zbG hi))
  have e1 : zae h1 [] m = zae h [] m := zaL hag wm
  have e2 : zaT h1 R = zaT h R := za3 hag wr
  have hp := zhN h1 rs k m fun p hp => zbG (zfm wm p hp)
  rw [e1] at hp
  refine hK h1 w' hag ⟨F.os, F.tape, F.output, F.size, fun k hk _ => F.block k hk (by simp)⟩ ?_ fun j hk => ?_
  ·rw [zjO, e2]
   exact (H.call S).perm hp.symm
  ·have hk := (zaw hp).mem_iff.1 hk
   rw [zak] at hk
   rcases List.mem_append.1 hk with h2 | h2
   ·exact .inl h2
   ·rcases S.mine j h2 with h3 | h3
    ·cases h3
    ·exact .inr h3
theorem zeZ {sv : SV} {k' : Nat} {m' : MB} {R' : List SF} (hs : zzW P N k l m R o sv m' R') (H : VSt N X G w0 k l m R h a w) (hok : okN k k' sv m' R' = true) {J : LE → Prop} (hp : zje N o.dst sv l J) {Kk : Act → World → Prop} (hK : ∀ l' h' a' w', J l' → VSt N X G w0 k' l' m' R' h' a' w' → Kk a' w') : o.wp P a w Kk Q := by
 have h1 := zab hok
 have h2 := zab h1.2
 have h3 := zab h2.2
 have hle : k ≤ k' := Nat.le_of_ble_eq_true h1.1
 refine hs Q h X a w H.env H.sp Kk fun hn w' ha F S hm => ?_
 have H' : VSt N X G w0 k' l m' R' hn a w' := ⟨by rw [zjd ha H.wl]; exact H.env, S, zwF H F, fun k hk => by
  rcases hm k hk with h4 | h4
  ·exact H.mine k h4
  ·exact .inr (jU H.frm.size h4), zps (zdf hle) H.wl, h3.1, h3.2⟩
 obtain ⟨l', h5, h6⟩ := H'.put h2.1 hp
 exact hK l' hn _ w' h5 h6
theorem zcD (hc : zeg P N o k l m R K) (H : VSt N X G w0 k l m R h a w) {Kk : Act → World → Prop} (hK : ∀ k' l' m' R' h' a' w', K k' l' m' R' → VSt N X G w0 k' l' m' R' h' a' w' → Kk a' w') : o.wp P a w Kk Q := by
 obtain ⟨sv, k', m', R', hs, hb⟩ := hc
 cases hok : okN k k' sv m' R' with
 | false => rw [hok] at hb; exact hb.elim
 | true =>
  rw [hok] at hb
  simp only [cond_true] at hb
  exact zeZ hs H hok hb fun l' h' a' w' hk HV => hK k' l' m' R' h' a' w' hk HV
theorem Sp.numAt {Rr : List (World → Prop)} (H : Sp X w (zae h [] m) Rr) {i : Nat} {q : RB} (e : zaA m i = some q) : Sp X w (q.den h i ++ zae h [i] m) Rr := H.perm (zaM h m [] i q e (by simp))
theorem zrg {ty t i off : Nat} {x y : Operand} {cs cs' new : List SC} {n : Nat × Bool} (hT : zbC P T) (ho : o.op = .store ty x y) (hx : zn6 (evS l x) = some (.own i off)) (hy : zf4 (evS l y) = some new) (hn : szT T ty = some n) (hm : zaA m i = some (.blk cs t)) (hl : zfh new = n.1) (hp : zr3 cs off n.1 new = some cs') (h1 : ∀ h, zo9 (zaD h new)) : zcj P N k l m R o (zeq undef) ((i, .blk cs' t) :: m) R := fun Q h X a w E H Kk hK => by
 have hb := zco H hm
 have H1 : Sp X w (.blk (h.b i) (ca (zaD h cs)) t :: zae h [i] m) (zaT h R) := H.numAt hm
 cases hv : evS l y with
 | none => rw [hv] at hy; cases hy
 | some v =>
  rw [hv] at hy
  have hr := zcb ho (E.ev (zaf (zby hx))) (E.ev (zaf hv)) (zcU (P := P) (ty := ty) hb (zeu hy) (h1 h) (zeW h cs off n.1 new cs' hl hp) (by rw [zbf, hl]; exact zjV (zfn hT hn)))
  unfold Oper.wp
  rw [hr]
  have hf := zcc (h.b i) (ca (zaD h cs')) w
  have ht := H1.turnAt (q' := .blk (h.b i) (ca (zaD h cs')) t) 0 rfl hf (zeQ hb) (by simp [Res.keys]) (by simp [Res.keys]) rfl
  have hkm : ∀ j, j ∈ zad (.blk (h.b i) (ca (zaD h cs)) t :: zae h [i] m) ↔ j ∈ zad (zae h [] m) := fun j => (zaw (zaM h m [] i _ hm (by simp))).mem_iff.symm
  refine hK h _ (fun _ _ => ⟨rfl, rfl, rfl⟩) ⟨hf.os, hf.tape, hf.output, hf.size, fun k hk hn => hf.block k hk fun hm' => hn ?_⟩ ht.1 fun j hj => ?_
  ·exact (hkm k).1 (List.mem_append_left _ hm')
  ·rcases ht.2 j hj with h2 | h2
   ·exact .inl ((hkm j).1 h2)
   ·exact .inr h2
theorem zmi (hT : zbC P T) (hv : vOp P T N o k l m R K) (H : VSt N X G w0 k l m R h a w) {Kk : Act → World → Prop} (hK : ∀ k' l' m' R' h' a' w', K k' l' m' R' → VSt N X G w0 k' l' m' R' h' a' w' → Kk a' w') : o.wp P a w Kk Q := by
 have tqc : tq T k l m R o (fun sv rs => match rs with
   | [] => bif sv.wf (lt_ k) then zje N o.dst sv l (fun l' => K k l' m R) else False
   | [q] => zbN (k + 1) fun k' => bif sv.wf (lt_ k') then (bif q.wf (lt_ k') then zje N o.dst sv l (fun l' => K k' l' ((k, q) :: m) R) else False) else False
   | _ => False) (zeg P N o k l m R K) → o.wp P a w Kk Q := fun hq => by
  rcases zpp (P := P) (N := N) (R := R) hT hq with ⟨sv, rs, ht, hk⟩ | hc
  ·split at hk
   ·cases h1 : sv.wf (lt_ k) with
    | false => rw [h1] at hk; exact hk.elim
    | true =>
     rw [h1] at hk
     simp only [cond_true] at hk
     exact zeZ (zan ht H.wm H.wr).q H (zaz (Nat.ble_eq_true_of_le (jV _)) (zaz h1 (zaz H.wm H.wr))) hk fun l' h' a' w' hk' HV => hK k l' _ _ h' a' w' hk' HV
   ·rename_i q
    have hk := zbb hk
    cases h1 : sv.wf (lt_ (k + 1)) with
    | false => rw [h1] at hk; exact hk.elim
    | true =>
     cases h2 : q.wf (lt_ (k + 1)) with
     | false => rw [h1, h2] at hk; exact hk.elim
     | true =>
      rw [h1, h2] at hk
      simp only [cond_true] at hk
      have hmo := zdf (show k ≤ k + 1 by omega)
      exact zeZ (k' := k + 1) (zan ht H.wm H.wr).q H (zaz (Nat.ble_eq_true_of_le (by omega)) (zaz h1 (zaz (zaz (Nat.ble_eq_true_of_le (jV _)) (zaz h2 (zc5 hmo H.wm))) (zb6 hmo H.wr)))) hk fun l' h' a' w' hk' HV => hK _ l' _ _ h' a' w' hk' HV
   ·exact hk.elim
  ·exact zcD hc H hK
 unfold vOp at hv
 split at hv
 ·rename_i ty x y ho
  split at hv
  ·rename_i i off new n ag hx hy hn
   split at hv
   ·rename_i cs t hm
    cases hl : zfi new n with
    | false => rw [hl] at hv; exact zcD hv H hK
    | true =>
     rw [hl] at hv
     simp only [cond_true] at hv
     split at hv
     ·rename_i cs' hp
      cases hi : lt_ k i with
      | false => rw [hi] at hv; exact zcD hv H hK
      | true =>
       cases hw : wfC (lt_ k) cs' with
       | false => rw [hi, hw] at hv; exact zcD hv H hK
       | true =>
        rw [hi, hw] at hv
        have hone := fun h => zgJ (h := h) hv
        exact zeZ (zrg hT ho hx hy hn hm (zcG hl) hp (fun h => (hone h).1)).q H (zaz (Nat.ble_eq_true_of_le (jV _)) (zaz rfl (zaz (zaz hi (zaz hw H.wm)) H.wr))) (hone h).2 fun l' h' a' w' hk' HV => hK k l' _ _ h' a' w' hk' HV
     ·exact zcD hv H hK
   ·exact zcD hv H hK
  ·exact zcD hv H hK
 ·exact tqc hv
theorem ze0 (hT : zbC P T) {ops : Array Oper} : ∀ {os : List Oper} {k : Nat} {l : LE} {m : MB} {R : List SF} {h : Hn} {a : Act} {w : World}, zr5 P T N ops os k l m R K → VSt N X G w0 k l m R h a w → (∀ k' l' m' R' h' a' w', K k' l' m' R' → VSt N X G w0 k' l' m' R' h' a' w' → Q .normal a' w') → wpList P ops Q os a w
 | [], k, l, m, R, h, a, w, hv, H, hK => hK k l m R h a w hv H
 | o :: os, k, l, m, R, h, a, w, hv, H, hK => by
  unfold zr5 at hv
  split at hv
  ·rename_i b hg
   have hw := zdT (h := h) H.env hg
   cases b with
   | true =>
    simp only [cond_true] at hv
    refine wpList_step fun Kk hKk => ?_
    rw [if_pos hw]
    exact zmi hT hv H fun k' l' m' R' h' a' w' hk HV => hKk _ _ (ze0 hT hk HV hK)
   | false =>
    simp only [cond_false] at hv
    unfold wpList
    rw [if_neg (by rw [hw]; decide)]
    obtain ⟨l', h1, h2⟩ := H.put (sv := zeq undef) rfl hv
    exact ze0 hT h1 h2 hK
  ·exact hv.elim
end
end
section
open Go.RowKit
section
variable {X X' G : List Nat} {w w' w0 : World} {L L1 L2 : List Res} {R R' : List (World → Prop)}
theorem Sp.hide (H : Sp X w (L1 ++ L2) R) (hR : ∀ r ∈ R', r ∈ R) : Sp (X ++ zad L2) w L1 R' := by
 have hap := H.apart
 have hxap := H.xap
 have hlt := H.lt
 have hfa := H.facts
 rw [zak] at hap hxap hlt hfa
 have h1 := List.nodup_append.1 hap
 refine ⟨fun k hk => ?_, fun q hq => H.holds q (List.mem_append_left _ hq), h1.1, fun k hk hm => ?_, fun r hr => (hfa r (hR r hr)).mono fun k hk => ?_⟩
 ·rcases List.mem_append.1 hk with h | h
  ·exact H.xlt k h
  ·exact hlt k (List.mem_append_right _ h)
 ·rcases List.mem_append.1 hm with h | h
  ·exact hxap k (List.mem_append_left _ hk) h
  ·exact h1.2.2 k hk k h rfl
 ·simp only [List.mem_append] at hk ⊢
  rcases hk with (h | h) | h
  ·exact .inl h
  ·exact .inr (.inr h)
  ·exact .inr (.inl h)
theorem Sep.setX (H : Sep X G w0 w L R) (hX : ∀ k, k ∈ X' ↔ k ∈ X) : Sep X' G w0 w L R :=
 ⟨H.frm, fun k hk => H.xlt k ((hX k).1 hk), H.holds, H.apart, H.mine, fun r hr => (H.facts r hr).mono fun k hk => by
  rcases List.mem_append.1 hk with h | h
  ·exact List.mem_append_left _ ((hX k).1 h)
  ·exact List.mem_append_right _ h⟩
end
section
variable {X : List Nat} {w w' : World} {L L1 L2 L3 : List Res} {R R1 : List (World → Prop)}
theorem Sp.giveL (H : Sp X w (L1 ++ L2) R) : Sep (X ++ zad L2) (zad L1) w w L1 R := by
 have h := H.hide (R' := R) fun r hr => hr
 exact h.sep
theorem Sp.callG (H : Sp X w (L1 ++ L2) R) (S : Sep (X ++ zad L2) (zad L1) w w' L3 R1) : Sp X w' (L3 ++ L2) (R1 ++ R) ∧ ∀ k ∈ zad (L3 ++ L2), k ∈ zad (L1 ++ L2) ∨ w.heap.size ≤ k := by
 have hap := H.apart
 have hxap := H.xap
 have hlt := H.lt
 rw [zak] at hap hxap hlt
 have h1 := List.nodup_append.1 hap
 have hnew : ∀ k ∈ zad L3, k ∈ zad L1 ∨ w.heap.size ≤ k := S.mine
 have hkeep : ∀ k, k < w.heap.size → k ∉ zad L1 → w'.heap[k]? = w.heap[k]? := S.frm.block
 refine ⟨⟨fun k hk => jT (H.xlt k hk) S.frm.size, fun q hq => ?_, ?_, fun k hk hx => ?_, fun r hr => ?_⟩, fun k hk => ?_⟩
 ·rcases List.mem_append.1 hq with h | h
  ·exact S.holds q h
  ·refine zbx (H.holds q (List.mem_append_right _ h)) fun k hk => hkeep k (zfV (H.holds q (List.mem_append_right _ h)) k hk) fun hm => ?_
   exact h1.2.2 k hm k (zbL.2 ⟨q, h, hk⟩) rfl
 ·rw [zak]
  refine List.nodup_append.2 ⟨S.apart, h1.2.1, fun a ha b hb e => ?_⟩
  subst e
  rcases hnew a ha with h | h
  ·exact h1.2.2 a h a hb rfl
  ·have := hlt a (List.mem_append_right _ hb)
   omega
 ·rw [zak] at hk
  rcases List.mem_append.1 hk with h | h
  ·rcases hnew k h with h2 | h2
   ·exact hxap k (List.mem_append_left _ h2) hx
   ·have := H.xlt k hx; omega
  ·exact hxap k (List.mem_append_right _ h) hx
 ·rw [zak]
  rcases List.mem_append.1 hr with h | h
  ·refine (S.facts r h).mono fun k hk => ?_
   simp only [List.mem_append] at hk ⊢
   rcases hk with h2 | h2 | h2
   ·exact .inl (.inl h2)
   ·exact .inr h2
   ·exact .inl (.inr h2)
  ·refine (H.facts r h).step S.frm.size (fun k hk hn => hkeep k hk fun hm => hn (List.mem_append_right _ (by rw [zak]; exact List.mem_append_left _ hm))) fun k hk => ?_
   rw [zak]
   simp only [List.mem_append] at hk ⊢
   rcases hk with h2 | h2 | h2
   ·exact .inl (.inl h2)
   ·rcases hnew k h2 with h3 | h3
    ·exact .inl (.inr (.inl h3))
    ·exact .inr h3
   ·exact .inl (.inr (.inr h2))
 ·rw [zak] at hk ⊢
  rcases List.mem_append.1 hk with h | h
  ·rcases hnew k h with h2 | h2
   ·exact .inl (List.mem_append_left _ h2)
   ·exact .inr h2
  ·exact .inl (List.mem_append_right _ h)
end
structure GO where
 i : Nat
 dst : Option Nat
 sv : SV
 vis : List Nat
 k : Nat
 k' : Nat
 rs : List RB
 Rs : List SF
 tn : Option MB
def zhj : List Nat → LE → Option LE
 | _, [] => some []
 | ds, (d, x) :: l => bif zaX d ds then zhj ds l else match zhj (d :: ds) l with | some r => some ((d, x) :: r) | none => none
def zj2 : List Oper → List Nat
 | [] => []
 | o :: os => match o.dst with | some d => d :: zj2 os | none => zj2 os
def zfw (v : Nat → Bool) : List GO → LE → LE
 | [], l => l
 | ⟨i, dst, sv, _, _, _, _, _, _⟩ :: gs, l => bif v i then (match dst with | some d => (d, sv) :: zfw v gs l | none => zfw v gs l) else zfw v gs l
def zds (v : Nat → Bool) : List GO → MB → MB
 | [], m => m
 | ⟨i, _, _, _, k, _, rs, _, _⟩ :: gs, m => bif v i then zhi k rs (zds v gs m) else zds v gs m
def zwb : List SF → List SF → List SF
 | [], R => R
 | r :: Rs, R => r :: zwb Rs R
def zhW (v : Nat → Bool) : List GO → List SF → List SF
 | [], R => R
 | ⟨i, _, _, _, _, _, _, Rs, _⟩ :: gs, R => bif v i then zwb Rs (zhW v gs R) else zhW v gs R
def zCv : List GO → Nat → List Nat
 | [], _ => []
 | ⟨i, _, _, vis, _, _, _, _, _⟩ :: gs, j => bif Nat.beq i j then vis else zCv gs j
def zC1 : List Nat → List Nat → (List Nat → Prop) → Prop
 | [], acc, K => K acc
 | x :: xs, acc, K => bif zaX x acc then zC1 xs acc K else zC1 xs (x :: acc) K
def zEV (gs : List GO) : List Nat → List Nat → (List Nat → Prop) → Prop
 | [], acc, K => K acc
 | j :: js, acc, K => zC1 (j :: zCv gs j) acc fun acc => zEV gs js acc K
def zC2 (gs : List GO) (js vis : List Nat) : Prop := ∀ i ∈ vis, i ∈ js ∨ ∃ j ∈ js, i ∈ zCv gs j
theorem zoa : ∀ {xs acc : List Nat} {K : List Nat → Prop}, zC1 xs acc K → ∃ s, K s ∧ ∀ i ∈ s, i ∈ xs ∨ i ∈ acc
 | [], acc, K, h => ⟨acc, h, fun i hi => .inr hi⟩
 | x :: xs, acc, K, h => by
  unfold zC1 at h
  cases hb : zaX x acc with
  | true =>
   rw [hb] at h
   obtain ⟨s, h1, h2⟩ := zoa (xs := xs) h
   exact ⟨s, h1, fun i hi => (h2 i hi).imp_left (List.mem_cons_of_mem _)⟩
  | false =>
   rw [hb] at h
   obtain ⟨s, h1, h2⟩ := zoa (xs := xs) h
   refine ⟨s, h1, fun i hi => ?_⟩
   rcases h2 i hi with h3 | h3
   ·exact .inl (List.mem_cons_of_mem _ h3)
   ·rcases List.mem_cons.1 h3 with rfl | h3
    ·exact .inl (List.mem_cons_self ..)
    ·exact .inr h3
theorem zsM {gs : List GO} : ∀ {js acc : List Nat} {K : List Nat → Prop}, zEV gs js acc K → ∃ s, K s ∧ ∀ i ∈ s, (i ∈ js ∨ ∃ j ∈ js, i ∈ zCv gs j) ∨ i ∈ acc
 | [], acc, K, h => ⟨acc, h, fun i hi => .inr hi⟩
 | j :: js, acc, K, h => by
  obtain ⟨s, h1, h2⟩ := zoa h
  obtain ⟨s', h3, h4⟩ := zsM (js := js) h1
  refine ⟨s', h3, fun i hi => ?_⟩
  rcases h4 i hi with (h5 | ⟨j', h5, h6⟩) | h5
  ·exact .inl (.inl (List.mem_cons_of_mem _ h5))
  ·exact .inl (.inr ⟨j', List.mem_cons_of_mem _ h5, h6⟩)
  ·rcases h2 i h5 with h6 | h6
   ·rcases List.mem_cons.1 h6 with rfl | h6
    ·exact .inl (.inl (List.mem_cons_self ..))
    ·exact .inl (.inr ⟨j, List.mem_cons_self .., h6⟩)
   ·exact .inr h6
def zzY : List GO → List Nat → Nat → Bool
 | [], _, _ => false
 | ⟨j, _, _, _, k, k', _, _, _⟩ :: gs, vis, i => bif zaX j vis then (bif Nat.ble k i then (bif Nat.ble (i + 1) k' then true else zzY gs vis i) else zzY gs vis i) else zzY gs vis i
def ziT (k0 : Nat) (gs : List GO) (vis : List Nat) (k k' : Nat) (i : Nat) : Bool := bif Nat.ble (i + 1) k0 then true else (bif Nat.ble k i then Nat.ble (i + 1) k' else zzY gs vis i)
def zcB (v : Nat → Bool) : List GO → MB → MB
 | [], H => H
 | ⟨j, _, _, _, _, _, _, _, tn⟩ :: gs, H => match tn with
  | some A => bif v j then A else zcB v gs H
  | none => zcB v gs H
def chainB : List GO → List Nat → Bool
 | [], _ => true
 | ⟨j, _, _, _, _, _, _, _, tn⟩ :: gs, vis => match tn with
  | some _ => bif zaX j vis then chainB gs vis else false
  | none => chainB gs vis
def zdg : List Nat → MB → MB
 | [], m => m
 | i :: D, m => (i, .gone) :: zdg D m
def zwG (k0 : Nat) (m : MB) : List Nat → Option MB
 | [] => some []
 | i :: D => match zaA m i with
  | some q => bif Nat.ble (i + 1) k0 then (bif zaX i D then none else match zwG k0 m D with | some H => some ((i, q) :: H) | none => none) else none
  | none => none
def zzZ : MB → MB → MB
 | [], m => m
 | p :: H, m => p :: zzZ H m
def zCw : MB → MB → Bool
 | [], _ => true
 | (i, _) :: H, m => match zaA m i with
  | some (.blk _ _) => false
  | some (.row _ _ _ _) => false
  | _ => zCw H m
def zz0 (T : Tab) (l : LE) (H : MB) (o : Oper) : Option (SV × MB × List SC) :=
 match o.op with
 | .store ty x y => match zn6 (evS l x), zf4 (evS l y), szT T ty with
  | some (.own i off), some new, some (n, _) => match zaA H i with
   | some (.blk cs t) => bif zfi new n then (match zr3 cs off n new with | some cs' => some (zeq undef, (i, .blk cs' t) :: H, new) | none => none) else none
   | _ => none
  | _, _, _ => none
 | .load ty x => match zn6 (evS l x), szT T ty with
  | some (.own i off), some (n, ag) => match zaA H i with
   | some (.blk cs _) => match zra cs off n with
    | some r => match ag, r with
     | true, r => some (.a (.agg r), H, [])
     | false, [.one v] => bif Nat.beq n 1 then some (.a (.s v), H, []) else none
     | _, _ => none
    | none => none
   | _ => none
  | _, _ => none
 | _ => none
def zFE : List RB → Nat
 | [] => 0
 | [_] => 1
 | [_, _] => 2
 | [_, _, _] => 3
 | rs => rs.length
theorem zj3 : ∀ rs, zFE rs = rs.length
 | [] => rfl
 | [_] => rfl
 | [_, _] => rfl
 | [_, _, _] => rfl
 | _ :: _ :: _ :: _ :: _ => rfl
def zC3 (k : Nat) : List RB → (Nat → Prop) → Prop
 | [], K => zbN k K
 | [_], K => zbN (k + 1) K
 | [_, _], K => zbN (k + 2) K
 | [_, _, _], K => zbN (k + 3) K
 | [_, _, _, _], K => zbN (k + 4) K
 | [_, _, _, _, _], K => zbN (k + 5) K
 | rs, K => zbN (k + rs.length) K
theorem zsN {k : Nat} {rs : List RB} {K : Nat → Prop} (h : zC3 k rs K) : K (k + zFE rs) := by
 unfold zC3 at h
 split at h
 ·exact zbb h
 ·exact zbb h
 ·exact zbb h
 ·exact zbb h
 ·rw [zj3]; exact zbb h
 ·rw [zj3]; exact zbb h
 ·rw [zj3]; exact zbb h
def zfx (N k0 i : Nat) (dst : Option Nat) (vis : List Nat) (k : Nat) (gs : List GO) (sv : SV) (rs : List RB) (Rs : List SF) (tn : Option MB) (K : Nat → List GO → Prop) : Prop :=
 zC3 k rs fun k' => bif sv.wf (ziT k0 gs vis k k') then (bif wfN (ziT k0 gs vis k k') k rs then (bif wfR (ziT k0 gs vis k k') Rs then (bif (match dst with | some d => Nat.ble (d + 1) N | none => true) then (bif (match tn with | some H => wfM (ziT k0 gs vis k k') H | none => true) then K k' (⟨i, dst, sv, vis, k, k', rs, Rs, tn⟩ :: gs) else False) else False) else False) else False) else False
def zj4 (P : Program) (N k : Nat) (l : LE) (m : MB) (R : List SF) (H : MB) (o : Oper) (sv : SV) (c : Nat) (H' : MB) (Rs : List SF) : Prop :=
 ∀ (Q : Exit → Act → World → Prop) (h : Hn) (X : List Nat) (a : Act) (w : World), Env a N (zcd h l) → Sp X w (zae h [] H ++ zae h [] m) (zaT h R) → ∀ Kk : Act → World → Prop,
  (∀ h1 w', (∀ i, i < k ∨ k + c ≤ i → h1.b i = h.b i ∧ h1.r i = h.r i ∧ h1.q i = h.q i) → Sep (X ++ zad (zae h [] m)) (zad (zae h [] H)) w w' (zae h1 [] H') (zaT h1 Rs) → Kk (a.put o.dst (sv.den h1)) w') → o.wp P a w Kk Q
def zhk : Nat → List RB
 | 0 => []
 | c + 1 => .gone :: zhk c
def vG (P : Program) (T : Tab) (N : Nat) (ops : Array Oper) (k0 : Nat) (l0 : LE) (m : MB) (R : List SF) (H0 : MB) (sk : List Nat) : List Oper → List (List Nat) → Nat → Nat → List GO → (Nat → List GO → Prop) → Prop
 | [], _, _, k, gs, K => K k gs
 | _ :: _, [], _, _, _, _ => False
 | o :: os, js :: ps, i, k, gs, K => zEV gs js [] fun vis =>
  match gdS ops (zfw (fun i => zaX i vis) gs l0) o with
  | some b => cond b
    (match zz0 T (zfw (fun i => zaX i vis) gs l0) (zcB (fun _ => true) gs H0) o with
    | some (sv, H', new) => bif chainB gs vis then zzX new (zfx N k0 i o.dst vis k gs sv [] [] (some H') fun k gs => vG P T N ops k0 l0 m R H0 sk os ps (i + 1) k gs K) else False
    | none => bif zaX (i + 1000) sk then ((∃ sv rs Rs, zfv P N k (zfw (fun i => zaX i vis) gs l0) (zds (fun i => zaX i vis) gs m) (zhW (fun i => zaX i vis) gs R) o sv rs Rs ∧ zfx N k0 i o.dst vis k gs sv rs Rs none fun k gs => vG P T N ops k0 l0 m R H0 sk os ps (i + 1) k gs K) ∨
      (chainB gs vis = true ∧ ∃ sv c H' Rs, zj4 P N k (zfw (fun i => zaX i vis) gs l0) (zds (fun i => zaX i vis) gs m) (zhW (fun i => zaX i vis) gs R) (zcB (fun _ => true) gs H0) o sv c H' Rs ∧ zfx N k0 i o.dst vis k gs sv (zhk c) Rs (some H') fun k gs => vG P T N ops k0 l0 m R H0 sk os ps (i + 1) k gs K)) else tq T k (zfw (fun i => zaX i vis) gs l0) (zds (fun i => zaX i vis) gs m) (zhW (fun i => zaX i vis) gs R) o
     (fun sv rs => zfx N k0 i o.dst vis k gs sv rs [] none fun k gs => vG P T N ops k0 l0 m R H0 sk os ps (i + 1) k gs K)
     ((∃ sv rs Rs, zfv P N k (zfw (fun i => zaX i vis) gs l0) (zds (fun i => zaX i vis) gs m) (zhW (fun i => zaX i vis) gs R) o sv rs Rs ∧ zfx N k0 i o.dst vis k gs sv rs Rs none fun k gs => vG P T N ops k0 l0 m R H0 sk os ps (i + 1) k gs K) ∨
      (chainB gs vis = true ∧ ∃ sv c H' Rs, zj4 P N k (zfw (fun i => zaX i vis) gs l0) (zds (fun i => zaX i vis) gs m) (zhW (fun i => zaX i vis) gs R) (zcB (fun _ => true) gs H0) o sv c H' Rs ∧ zfx N k0 i o.dst vis k gs sv (zhk c) Rs (some H') fun k gs => vG P T N ops k0 l0 m R H0 sk os ps (i + 1) k gs K)))
    (zfx N k0 i o.dst vis k gs (zeq undef) [] [] none fun k gs => vG P T N ops k0 l0 m R H0 sk os ps (i + 1) k gs K)
  | none => False
def zEz : List Edge → List Nat
 | [] => []
 | ⟨on, g⟩ :: es => match g with
  | .textOnly _ => zEz es
  | .gcOnly _ => zEz es
  | _ => on :: zEz es
def zEW : List Oper → Nat → List (List Nat)
 | _, 0 => []
 | [], _ + 1 => []
 | o :: os, n + 1 => zEz o.after.toList :: zEW os n
def zsO : LE → (LE → Prop) → Prop
 | [], K => K []
 | (d, x) :: l, K => zsO l fun l' => K ((d, x) :: l')
def zmj : MB → (MB → Prop) → Prop
 | [], K => K []
 | (i, q) :: m, K => zbN i fun i => match q with
  | .gone => zmj m fun m' => K ((i, .gone) :: m')
  | .blk cs t => zmj m fun m' => K ((i, .blk cs t) :: m')
  | .row e sz n xs => zmj m fun m' => K ((i, .row e sz n xs) :: m')
def zsP : List SF → (List SF → Prop) → Prop
 | [], K => K []
 | r :: R, K => zsP R fun R' => K (r :: R')
theorem zmk : ∀ {l : LE} {K : LE → Prop}, zsO l K → K l
 | [], _, h => h
 | (d, x) :: l, K, h => zmk (l := l) (K := fun l' => K ((d, x) :: l')) h
theorem zf7 : ∀ {m : MB} {K : MB → Prop}, zmj m K → K m
 | [], _, h => h
 | (i, q) :: m, K, h => by
  have h := zbb h
  cases q with
  | gone => exact zf7 (m := m) (K := fun m' => K ((i, .gone) :: m')) h
  | blk cs t => exact zf7 (m := m) (K := fun m' => K ((i, .blk cs t) :: m')) h
  | row e sz n xs => exact zf7 (m := m) (K := fun m' => K ((i, .row e sz n xs) :: m')) h
theorem zmm : ∀ {R : List SF} {K : List SF → Prop}, zsP R K → K R
 | [], _, h => h
 | r :: R, K, h => zmm (R := R) (K := fun R' => K (r :: R')) h
def vDD (two : Bool) (P : Program) (T : Tab) (N : Nat) (lo : List Oper) (k : Nat) (l : LE) (m : MB) (R : List SF) (K : KS) (n : Nat) (ps : List (List Nat)) (D sk : List Nat) : Prop :=
 match zhj (zj2 (lo.take n)) l, zwG k m D with
 | some l0, some H0 => vG P T N lo.toArray k l0 (zdg D m) R H0 sk (lo.take n) ps 0 k [] fun k gs => bif zCw (zcB (fun _ => true) gs H0) (zds (fun _ => true) gs (zdg D m)) then (zsO (zfw (fun _ => true) gs l0) fun l => zmj (zzZ (zcB (fun _ => true) gs H0) (zds (fun _ => true) gs (zdg D m))) fun m => zsP (zhW (fun _ => true) gs R) fun R => zsL two (lo.drop n) fun os => zr5 P T N lo.toArray os k l m R K) else False
 | _, _ => False
def zEA : List Nat → List Nat
 | [] => []
 | i :: D => bif Nat.ble 1000 i then zEA D else i :: zEA D
def zwH : List Nat → List Nat
 | [] => []
 | i :: D => bif Nat.ble 1000 i then i :: zwH D else zwH D
def vD (two : Bool) (P : Program) (T : Tab) (N : Nat) (lo : List Oper) (k : Nat) (l : LE) (m : MB) (R : List SF) (K : KS) (n : Nat) (ps : List (List Nat)) (D : List Nat) : Prop := vDD two P T N lo k l m R K n ps (zEA D) (zwH D)
section
variable {P : Program} {T : Tab} {N k0 : Nat} {ops : Array Oper} {l0 : LE} {m : MB} {R : List SF} {H0 : MB} {lo : List Oper} {ps : List (List Nat)}
structure GOne (P : Program) (N : Nat) (ops : Array Oper) (k0 : Nat) (l0 : LE) (m : MB) (R : List SF) (H0 : MB) (lo : List Oper) (ps : List (List Nat)) (g : GO) (gs : List GO) : Prop where
 at_ : ∃ o js, lo[g.i]? = some o ∧ ps[g.i]? = some js ∧ g.dst = o.dst ∧ zC2 gs js g.vis ∧
  ((gdS ops (zfw (fun i => zaX i g.vis) gs l0) o = some true ∧ zfv P N g.k (zfw (fun i => zaX i g.vis) gs l0) (zds (fun i => zaX i g.vis) gs m) (zhW (fun i => zaX i g.vis) gs R) o g.sv g.rs g.Rs ∧ g.tn = none) ∨
   (gdS ops (zfw (fun i => zaX i g.vis) gs l0) o = some false ∧ g.sv = zeq undef ∧ g.rs = [] ∧ g.Rs = [] ∧ g.tn = none) ∨
   (gdS ops (zfw (fun i => zaX i g.vis) gs l0) o = some true ∧ chainB gs g.vis = true ∧ ∃ c H', g.tn = some H' ∧ g.rs = zhk c ∧ zj4 P N g.k (zfw (fun i => zaX i g.vis) gs l0) (zds (fun i => zaX i g.vis) gs m) (zhW (fun i => zaX i g.vis) gs R) (zcB (fun _ => true) gs H0) o g.sv c H' g.Rs))
 ix : g.i = gs.length
 len : g.k' = g.k + g.rs.length
 low : k0 ≤ g.k
 lows : ∀ g' ∈ gs, g'.k' ≤ g.k
 wv : g.sv.wf (ziT k0 gs g.vis g.k g.k') = true
 wn : wfN (ziT k0 gs g.vis g.k g.k') g.k g.rs = true
 wr : wfR (ziT k0 gs g.vis g.k g.k') g.Rs = true
 wt : ∀ H, g.tn = some H → wfM (ziT k0 gs g.vis g.k g.k') H = true
 dN : ∀ d, g.dst = some d → d < N
def GOk (P : Program) (N : Nat) (ops : Array Oper) (k0 : Nat) (l0 : LE) (m : MB) (R : List SF) (H0 : MB) (lo : List Oper) (ps : List (List Nat)) : List GO → Prop
 | [] => True
 | g :: gs => GOne P N ops k0 l0 m R H0 lo ps g gs ∧ GOk P N ops k0 l0 m R H0 lo ps gs
theorem zwI {i k : Nat} {dst : Option Nat} {vis : List Nat} {gs : List GO} {sv : SV} {rs : List RB} {Rs : List SF} {tn : Option MB} {K : Nat → List GO → Prop} (h : zfx N k0 i dst vis k gs sv rs Rs tn K) :
  K (k + rs.length) (⟨i, dst, sv, vis, k, k + rs.length, rs, Rs, tn⟩ :: gs) ∧ sv.wf (ziT k0 gs vis k (k + rs.length)) = true ∧ wfN (ziT k0 gs vis k (k + rs.length)) k rs = true ∧ wfR (ziT k0 gs vis k (k + rs.length)) Rs = true ∧ (∀ d, dst = some d → d < N) ∧ ∀ H, tn = some H → wfM (ziT k0 gs vis k (k + rs.length)) H = true := by
 have h := zsN h
 rw [zj3] at h
 cases h1 : sv.wf (ziT k0 gs vis k (k + rs.length)) with
 | false => rw [h1] at h; exact h.elim
 | true =>
  cases h2 : wfN (ziT k0 gs vis k (k + rs.length)) k rs with
  | false => rw [h1, h2] at h; exact h.elim
  | true =>
   cases h3 : wfR (ziT k0 gs vis k (k + rs.length)) Rs with
   | false => rw [h1, h2, h3] at h; exact h.elim
   | true =>
    rw [h1, h2, h3] at h
    simp only [cond_true] at h
    cases h4 : (match dst with | some d => Nat.ble (d + 1) N | none => true) with
    | false => simp only [h4] at h; exact h.elim
    | true =>
     simp only [h4, cond_true] at h
     cases h5 : (match tn with | some H => wfM (ziT k0 gs vis k (k + rs.length)) H | none => true) with
     | false => simp only [h5] at h; exact h.elim
     | true =>
      simp only [h5, cond_true] at h
      exact ⟨h, rfl, rfl, rfl, fun d e => by subst e; exact Nat.le_of_ble_eq_true h4, fun H e => by subst e; exact h5⟩
theorem zwJ {l : LE} {H H' : MB} {o : Oper} {sv : SV} {new : List SC} {k : Nat} (hT : zbC P T) (e : zz0 T l H o = some (sv, H', new)) (hone : ∀ h, zo9 (zaD h new)) : zj4 P N k l m R H o sv 0 H' [] := fun Q h X a w E HS Kk hK => by
 unfold zz0 at e
 split at e
 ·rename_i ty x y hop
  split at e
  ·rename_i i off new' n ag hx hy hn
   split at e
   ·rename_i cs t hl
    cases hl2 : zfi new' n with
    | false => rw [hl2] at e; cases e
    | true =>
     rw [hl2] at e
     simp only [cond_true] at e
     split at e
     ·rename_i cs' hput
      simp only [Option.some.injEq, Prod.mk.injEq] at e
      obtain ⟨rfl, rfl, rfl⟩ := e
      have hp := zaM h H [] i _ hl (by simp)
      have hp1 : (zae h [] H ++ zae h [] m).Perm (.blk (h.b i) (ca (zaD h cs)) t :: (zae h [i] H ++ zae h [] m)) := List.Perm.append_right _ hp
      have H1 := HS.perm hp1
      have hblk : w.heap[h.b i]? = some (.cells (ca (zaD h cs)) t (0, 0)) := H1.holds _ (List.mem_cons_self ..)
      cases hyv : evS l y with
      | none => rw [hyv] at hy; cases hy
      | some vy =>
       rw [hyv] at hy
       have hr := zcb hop (E.ev (zaf (zby hx))) (E.ev (zaf hyv)) (zcU (P := P) (ty := ty) hblk (zeu hy) (hone h) (zeW h cs off n new' cs' (zcG hl2) hput) (by rw [zbf, zcG hl2]; exact zjV (zfn hT hn)))
       unfold Oper.wp
       rw [hr]
       have hf := zcc (h.b i) (ca (zaD h cs')) w
       have hsub : Sep (X ++ zad (zae h [] m)) (zad (zae h [] H)) w w (zae h [] H) (zaT h R) := HS.giveL
       have hsub2 := hsub.perm hp
       have hmem : ∀ j, j ∈ zad (.blk (h.b i) (ca (zaD h cs)) t :: zae h [i] H) ↔ j ∈ zad (zae h [] H) := fun j => (zaw hp).mem_iff.symm
       have ht := hsub2.turnAt (q' := .blk (h.b i) (ca (zaD h cs')) t) 0 rfl hf (zeQ hblk) (by simp [Res.keys]) (by simp [Res.keys]) rfl
       refine hK h _ (fun _ _ => ⟨rfl, rfl, rfl⟩) ?_
       have e2 : zae h [] ((i, RB.blk cs' t) :: H) = .blk (h.b i) (ca (zaD h cs')) t :: zae h [i] H := rfl
       rw [e2]
       exact ht.refacts (fun _ h => by cases h)
     ·cases e
   ·cases e
  ·cases e
 ·rename_i ty x hop
  split at e
  ·rename_i i off n ag hx hn
   split at e
   ·rename_i cs t hl
    have H1 : Sp X w (zae h [] H ++ zae h [] m) (zaT h R) := HS
    have hblk : w.heap[h.b i]? = some (.cells (ca (zaD h cs)) t (0, 0)) := H1.holds _ (List.mem_append_left _ ((zaM h H [] i _ hl (by simp)).mem_iff.2 (List.mem_cons_self ..)))
    split at e
    ·rename_i r hp
     have h1 := zgF (zeo hblk) (zfZ h hp)
     have h2 : AtC ⟨h.b i, off, none⟩ (zaD h r) w := by rw [zjI]; exact h1
     have fin : ∀ sv' : SV, (execOp a.eval o).run P w = .ok (.value (sv'.den h)) w → sv' = sv → H = H' → o.wp P a w Kk Q := fun sv' hr e1 e2 => by
      subst e1 e2
      unfold Oper.wp
      rw [hr]
      exact hK h w (fun _ _ => ⟨rfl, rfl, rfl⟩) (HS.giveL.refacts (fun _ h => by cases h))
     split at e
     ·simp only [Option.some.injEq, Prod.mk.injEq] at e
      exact fin (.a (.agg r)) (zbM E hop (zaf (zby hx)) (zfn hT hn) (zeR (zfZ h hp)).2.1 h2) e.1 e.2.1
     ·rename_i v
      cases hb : Nat.beq n 1 with
      | false => rw [hb] at e; cases e
      | true =>
       rw [hb] at e
       simp only [cond_true, Option.some.injEq, Prod.mk.injEq] at e
       obtain rfl := Nat.eq_of_beq_eq_true hb
       exact fin (.a (.s v)) (za0 E hop (zaf (zby hx)) (zfn hT hn) h2) e.1 e.2.1
     ·cases e
    ·cases e
   ·cases e
  ·cases e
 ·cases e
theorem zmn : ∀ c, (zhk c).length = c
 | 0 => rfl
 | c + 1 => by rw [zhk, List.length_cons, zmn c]
theorem zpt (hT : zbC P T) {sk : List Nat} : ∀ (os : List Oper) (qs : List (List Nat)) (i k : Nat) (gs : List GO) (K : Nat → List GO → Prop), vG P T N ops k0 l0 m R H0 sk os qs i k gs K → (∀ j, os[j]? = lo[i + j]?) → (∀ j, qs[j]? = ps[i + j]?) → i = gs.length → k0 ≤ k → (∀ g ∈ gs, g.k' ≤ k) → GOk P N ops k0 l0 m R H0 lo ps gs →
  ∃ k' gs', K k' gs' ∧ GOk P N ops k0 l0 m R H0 lo ps gs' ∧ gs'.length = i + os.length ∧ k0 ≤ k' ∧ ∀ g ∈ gs', g.k' ≤ k'
 | [], qs, i, k, gs, K, h, _, _, hi, hk, hl, hg => ⟨k, gs, h, hg, by simp [hi], hk, hl⟩
 | _ :: _, [], _, _, _, _, h, _, _, _, _, _, _ => h.elim
 | o :: os, js :: qs, i, k, gs, K, h, ho, hp, hi, hk, hl, hg => by
  have ho0 : lo[i]? = some o := by have := ho 0; simpa using this.symm
  have hp0 : ps[i]? = some js := by have := hp 0; simpa using this.symm
  obtain ⟨vis, h, hvis⟩ := zsM h
  have hvis : zC2 gs js vis := fun i hi => (hvis i hi).resolve_right (fun hn => by cases hn)
  have next : ∀ (sv : SV) (rs : List RB) (Rs : List SF) (tn : Option MB), zfx N k0 i o.dst vis k gs sv rs Rs tn (fun k gs => vG P T N ops k0 l0 m R H0 sk os qs (i + 1) k gs K) →
    ((gdS ops (zfw (fun i => zaX i vis) gs l0) o = some true ∧ zfv P N k (zfw (fun i => zaX i vis) gs l0) (zds (fun i => zaX i vis) gs m) (zhW (fun i => zaX i vis) gs R) o sv rs Rs ∧ tn = none) ∨
     (gdS ops (zfw (fun i => zaX i vis) gs l0) o = some false ∧ sv = zeq undef ∧ rs = [] ∧ Rs = [] ∧ tn = none) ∨
     (gdS ops (zfw (fun i => zaX i vis) gs l0) o = some true ∧ chainB gs vis = true ∧ ∃ c H', tn = some H' ∧ rs = zhk c ∧ zj4 P N k (zfw (fun i => zaX i vis) gs l0) (zds (fun i => zaX i vis) gs m) (zhW (fun i => zaX i vis) gs R) (zcB (fun _ => true) gs H0) o sv c H' Rs)) →
    ∃ k' gs', K k' gs' ∧ GOk P N ops k0 l0 m R H0 lo ps gs' ∧ gs'.length = i + (o :: os).length ∧ k0 ≤ k' ∧ ∀ g ∈ gs', g.k' ≤ k' := fun sv rs Rs tn hq ht => by
   obtain ⟨h1, h2, h3, h4, h5, h6⟩ := zwI hq
   obtain ⟨k', gs', a1, a2, a3, a4, a5⟩ := zpt hT os qs (i + 1) _ _ K h1 (fun j => by have := ho (j + 1); rwa [jE, show i + (j + 1) = i + 1 + j by omega] at this) (fun j => by have := hp (j + 1); rwa [jE, show i + (j + 1) = i + 1 + j by omega] at this) (by simp [hi]) (by omega)
    (fun g hg' => by
     rcases List.mem_cons.1 hg' with rfl | hg'
     ·exact jV _
     ·have := hl g hg'; omega)
    ⟨⟨⟨o, js, ho0, hp0, rfl, hvis, ht⟩, hi, rfl, hk, hl, h2, h3, h4, h6, h5⟩, hg⟩
   exact ⟨k', gs', a1, a2, by rw [a3, List.length_cons]; omega, a4, a5⟩
  split at h
  ·rename_i b hb
   cases b with
   | true =>
    simp only [cond_true] at h
    split at h
    ·rename_i sv H' new hst
     cases hch : chainB gs vis with
     | false => rw [hch] at h; exact h.elim
     | true =>
      rw [hch] at h
      simp only [cond_true] at h
      have hone := fun hn => zgJ (h := hn) h
      exact next sv [] [] (some H') (hone ⟨fun _ => 0, fun _ => (none, 0), fun _ _ => []⟩).2 (.inr (.inr ⟨hb, hch, 0, H', rfl, rfl, zwJ hT hst fun hn => (hone hn).1⟩))
    ·cases hsk : zaX (i + 1000) sk with
     | true =>
      rw [hsk] at h
      rcases h with ⟨sv, rs, Rs, ht, hq⟩ | ⟨hch, sv, c, H', Rs, ht, hq⟩
      ·exact next sv rs Rs none hq (.inl ⟨hb, ht, rfl⟩)
      ·exact next sv _ Rs _ hq (.inr (.inr ⟨hb, hch, c, H', rfl, rfl, ht⟩))
     | false =>
      rw [hsk] at h
      rcases zpp (P := P) (N := N) (R := zhW (fun i => zaX i vis) gs R) hT h with ⟨sv, rs, ht, hq⟩ | ⟨sv, rs, Rs, ht, hq⟩ | ⟨hch, sv, c, H', Rs, ht, hq⟩
      ·exact next sv rs [] none hq (.inl ⟨hb, ht, rfl⟩)
      ·exact next sv rs Rs none hq (.inl ⟨hb, ht, rfl⟩)
      ·exact next sv _ Rs _ hq (.inr (.inr ⟨hb, hch, c, H', rfl, rfl, ht⟩))
   | false =>
    simp only [cond_false] at h
    exact next _ _ _ _ h (.inr (.inl ⟨hb, rfl, rfl, rfl, rfl⟩))
  ·exact h.elim
end
def DG (h : Hn) (v : Nat → Bool) : List GO → List Res
 | [] => []
 | g :: gs => DG h v gs ++ bif v g.i then zdN h g.k g.rs else []
section
variable {P : Program} {T : Tab} {N k0 : Nat} {ops : Array Oper} {l0 : LE} {m : MB} {R : List SF} {H0 : MB} {lo : List Oper} {ps : List (List Nat)} {h : Hn} {u v : Nat → Bool}
theorem zrh {rs : List RB} {k b : Nat} {m : MB} (hm : ∀ p ∈ m, p.1 < b) (hb : k + rs.length ≤ b) : ∀ p ∈ zhi k rs m, p.1 < b := by
 induction rs generalizing k m with
 | nil => exact hm
 | cons q rs ih =>
  rw [List.length_cons] at hb
  exact ih (fun p hp => by
   rcases List.mem_cons.1 hp with rfl | hp
   ·show k < b; omega
   ·exact hm p hp) (by omega)
theorem zmo (v : Nat → Bool) : ∀ {gs : List GO} {b : Nat}, GOk P N ops k0 l0 m R H0 lo ps gs → (∀ p ∈ m, p.1 < k0) → k0 ≤ b → (∀ g ∈ gs, g.k' ≤ b) → ∀ p ∈ zds v gs m, p.1 < b
 | [], b, _, hm, hb, _, p, hp => jT (hm p hp) hb
 | g :: gs, b, hg, hm, hb, hl, p, hp => by
  have ih := zmo v (gs := gs) (b := b) hg.2 hm hb fun g' hg' => hl g' (List.mem_cons_of_mem _ hg')
  have h1 := hl g (List.mem_cons_self ..)
  unfold zds at hp
  cases hv : v g.i with
  | false => rw [hv] at hp; exact ih p hp
  | true => rw [hv] at hp; exact zrh ih (by rw [← hg.1.len]; exact h1) p hp
theorem zb2 (v : Nat → Bool) : ∀ {gs : List GO}, GOk P N ops k0 l0 m R H0 lo ps gs → (∀ p ∈ m, p.1 < k0) → (zae h [] (zds v gs m)).Perm (zae h [] m ++ DG h v gs)
 | [], _, _ => by rw [DG, List.append_nil]; exact List.Perm.refl _
 | g :: gs, hg, hm => by
  have ih := zb2 v hg.2 hm
  unfold zds DG
  cases hv : v g.i with
  | false => rw [cond_false, cond_false, List.append_nil]; exact ih
  | true =>
   rw [cond_true, cond_true, ← List.append_assoc]
   exact (zhN h g.rs g.k _ (zmo v hg.2 hm hg.1.low hg.1.lows)).trans (List.Perm.append_right _ ih)
theorem zj5 (huv : ∀ i, u i = true → v i = true) : ∀ (gs : List GO), (DG h v gs).Perm (DG h u gs ++ DG h (fun i => v i && !u i) gs)
 | [] => List.Perm.refl _
 | g :: gs => by
  have ih := zj5 huv gs
  unfold DG
  cases hu : u g.i with
  | true =>
   rw [huv _ hu]
   simp only [cond_true, Bool.not_true, Bool.and_false, cond_false, List.append_nil]
   refine (List.Perm.append_right _ ih).trans ?_
   rw [List.append_assoc, List.append_assoc]
   exact List.Perm.append_left _ List.perm_append_comm
  | false =>
   simp only [cond_false, List.append_nil, Bool.not_false, Bool.and_true]
   rw [← List.append_assoc]
   exact List.Perm.append_right _ ih
theorem zsQ : ∀ (gs : List GO), (∀ g ∈ gs, v g.i = false) → DG h v gs = []
 | [], _ => rfl
 | g :: gs, hv => by
  unfold DG
  rw [hv g (List.mem_cons_self ..), zsQ gs fun g' hg' => hv g' (List.mem_cons_of_mem _ hg')]
  rfl
theorem zpu : ∀ (gs : List GO), (∀ g ∈ gs, v g.i = u g.i) → DG h v gs = DG h u gs
 | [], _ => rfl
 | g :: gs, hv => by
  unfold DG
  rw [hv g (List.mem_cons_self ..), zpu gs fun g' hg' => hv g' (List.mem_cons_of_mem _ hg')]
theorem zhX : ∀ {gs : List GO}, GOk P N ops k0 l0 m R H0 lo ps gs → ∀ g ∈ gs, g.i < gs.length
 | [], _, g, hg => by cases hg
 | g' :: gs, hk, g, hg => by
  rw [List.length_cons]
  rcases List.mem_cons.1 hg with rfl | hg
  ·rw [hk.1.ix]; omega
  ·have := zhX hk.2 g hg; omega
theorem zsR {g0 : GO} {gs0 : List GO} : ∀ (pre : List GO), GOk P N ops k0 l0 m R H0 lo ps (pre ++ g0 :: gs0) → v g0.i = false → (DG h (fun i => v i || Nat.beq i g0.i) (pre ++ g0 :: gs0)).Perm (DG h v (pre ++ g0 :: gs0) ++ zdN h g0.k g0.rs)
 | [], hk, hv => by
  have hlt := zhX hk.2
  rw [List.nil_append, DG, DG, zpu (u := v) gs0 fun g hg => by
   have h1 := hlt g hg
   have h2 := hk.1.ix
   show (v g.i || Nat.beq g.i g0.i) = v g.i
   have : Nat.beq g.i g0.i = false := by
    cases hb : Nat.beq g.i g0.i with
    | false => rfl
    | true => have := Nat.eq_of_beq_eq_true hb; omega
   rw [this, Bool.or_false]]
  rw [hv, Nat.beq_refl]
  simp only [Bool.false_or, cond_true, cond_false, List.append_nil]
  exact List.Perm.refl _
 | g :: pre, hk, hv => by
  have ih := zsR pre hk.2 hv
  have h1 : g.i ≠ g0.i := by
   have h2 := hk.1.ix
   have h3 := zhX hk.2 g0 (List.mem_append_right _ (List.mem_cons_self ..))
   omega
  have hb : Nat.beq g.i g0.i = false := by
   cases hb : Nat.beq g.i g0.i with
   | false => rfl
   | true => exact absurd (Nat.eq_of_beq_eq_true hb) h1
  rw [List.cons_append, DG, DG, hb, Bool.or_false]
  refine (List.Perm.append_right _ ih).trans ?_
  rw [List.append_assoc, List.append_assoc]
  exact List.Perm.append_left _ List.perm_append_comm
theorem zj6 : ∀ (a b : List SF), zwb a b = a ++ b
 | [], _ => rfl
 | r :: a, b => by rw [zwb, zj6 a b]; rfl
theorem zbr {r : SF} : ∀ {gs : List GO}, r ∈ zhW v gs R ↔ r ∈ R ∨ ∃ g ∈ gs, v g.i = true ∧ r ∈ g.Rs
 | [] => by simp [zhW]
 | g :: gs => by
  unfold zhW
  cases hv : v g.i with
  | true => rw [cond_true, zj6, List.mem_append, zbr]; simp [hv]; exact or_left_comm
  | false => rw [cond_false, zbr]; simp [hv]
theorem zcp {p : Nat × SV} : ∀ {gs : List GO}, p ∈ zfw v gs l0 ↔ p ∈ l0 ∨ ∃ g ∈ gs, v g.i = true ∧ ∃ d, g.dst = some d ∧ p = (d, g.sv)
 | [] => by simp [zfw]
 | g :: gs => by
  unfold zfw
  cases hv : v g.i with
  | true =>
   rw [cond_true]
   cases hd : g.dst with
   | none => simp only [zcp]; simp [hv, hd]
   | some d => simp only [List.mem_cons, zcp]; simp [hv, hd]; exact or_left_comm
  | false => rw [cond_false, zcp]; simp [hv]
theorem zhv : ∀ {l : LE} {i : Nat} {x : SV}, zbJ l i = some x → (i, x) ∈ l
 | [], i, x, e => by cases e
 | (d, v) :: l, i, x, e => by
  unfold zbJ at e
  cases hb : Nat.beq d i with
  | true => rw [hb] at e; rw [← Option.some.inj e, ← Nat.eq_of_beq_eq_true hb]; exact List.mem_cons_self ..
  | false => rw [hb] at e; exact List.mem_cons_of_mem _ (zhv e)
theorem zhY (h : Hn) : ∀ (l : LE) (i : Nat) (u : Value), zfQ (zcd h l) i = some u → ∃ x, zbJ l i = some x ∧ u = x.den h
 | [], i, u, e => by cases e
 | (d, v) :: l, i, u, e => by
  unfold zcd zfQ at e
  unfold zbJ
  cases hb : Nat.beq d i with
  | true => rw [hb] at e; exact ⟨v, rfl, (Option.some.inj e).symm⟩
  | false => rw [hb] at e; exact zhY h l i u e
structure EnvM (N : Nat) (h : Hn) (l : LE) (a : Act) : Prop where
 defers : a.defers = []
 size : a.tmps.size = N
 all : ∀ p ∈ l, a.tmps.getD p.1 undef = p.2.den h
theorem EnvM.env {l l' : LE} {a : Act} (H : EnvM N h l a) (hs : ∀ p ∈ l', p ∈ l) : Env a N (zcd h l') := ⟨H.defers, H.size, fun i u hi => by
 obtain ⟨x, h1, rfl⟩ := zhY h l' i u hi
 exact H.all _ (hs _ (zhv h1))⟩
theorem zf8 : ∀ {l : LE} {ds : List Nat} {l0 : LE}, zhj ds l = some l0 → ∀ p ∈ l0, zbJ l p.1 = some p.2 ∧ p.1 ∉ ds
 | [], ds, l0, e, p, hp => by rw [zhj] at e; rw [← Option.some.inj e] at hp; cases hp
 | (d, x) :: l, ds, l0, e, p, hp => by
  unfold zhj at e
  cases hb : zaX d ds with
  | true =>
   rw [hb] at e
   obtain ⟨h1, h2⟩ := zf8 e p hp
   have hne : d ≠ p.1 := fun ee => h2 (by rw [← ee]; exact zax.1 hb)
   have hq : Nat.beq d p.1 = false := by cases hq : Nat.beq d p.1 with | false => rfl | true => exact absurd (Nat.eq_of_beq_eq_true hq) hne
   unfold zbJ
   rw [hq]
   exact ⟨h1, h2⟩
  | false =>
   rw [hb] at e
   simp only [cond_false] at e
   cases hn : zhj (d :: ds) l with
   | none => rw [hn] at e; cases e
   | some r =>
    rw [hn] at e
    rw [← Option.some.inj e] at hp
    rcases List.mem_cons.1 hp with rfl | hp
    ·unfold zbJ
     rw [Nat.beq_refl]
     exact ⟨rfl, fun hm => by rw [zax.2 hm] at hb; cases hb⟩
    ·obtain ⟨h1, h2⟩ := zf8 hn p hp
     have hne : d ≠ p.1 := fun ee => h2 (by rw [← ee]; exact List.mem_cons_self ..)
     have hq : Nat.beq d p.1 = false := by cases hq : Nat.beq d p.1 with | false => rfl | true => exact absurd (Nat.eq_of_beq_eq_true hq) hne
     unfold zbJ
     rw [hq]
     exact ⟨h1, fun hm => h2 (List.mem_cons_of_mem _ hm)⟩
theorem zhZ {S : Nat → Bool} : ∀ {l : LE}, wfE S l = true → ∀ p ∈ l, p.2.wf S = true
 | [], _, p, hp => by cases hp
 | (d, x) :: l, hw, p, hp => by
  rcases List.mem_cons.1 hp with rfl | hp
  ·exact (zab hw).1
  ·exact zhZ (zab hw).2 p hp
theorem zbW {S : Nat → Bool} : ∀ {R : List SF}, wfR S R = true → ∀ r ∈ R, r.wf S = true
 | [], _, p, hp => by cases hp
 | r :: R, hw, p, hp => by
  rcases List.mem_cons.1 hp with rfl | hp
  ·exact (zab hw).1
  ·exact zbW (zab hw).2 p hp
theorem zay {r : World → Prop} : ∀ {R : List SF}, r ∈ zaT h R ↔ ∃ q ∈ R, r = q.den h
 | [] => by simp [zaT]
 | q :: R => by simp [zaT, zay]
theorem SF.same {S : Nat → Bool} {h' : Hn} (ha : AgS S h h') {r : SF} (hw : r.wf S = true) : r.den h' = r.den h := by
 cases r with
 | c r => rfl
 | h i f => simp only [SF.den, (ha i hw).2.1]
 | sl i n f => simp only [SF.den, (ha i hw).2.1]
 | b i f => simp only [SF.den, (ha i hw).1]
 | q i f => simp only [SF.den, (ha i hw).2.2]
 | nm i f => simp only [SF.den, (ha i hw).1, (ha i hw).2.1, (ha i hw).2.2]
 | blk i cs => simp only [SF.den, (ha i (zab hw).1).1, zdb ha (zab hw).2]
end
end
end Go.Proofs.YtcmmpiaogfnmoaaGreatDoor
