/- Texts: slices of bytes that read as a list; rows of a call's own; what is added to them. No program is in sight. -/
import Derived.Test.YtfbfkfdkigpkgaaArr
import Derived.Maps.AppendAt
import Derived.Deep.AppendLies
import Derived.Deep.Draws
import Derived.Laws.OwnMore
import Derived.Laws.AppendOwnNone
import Derived.OwnWalk
import Derived.Below
namespace Go.Proofs.Ytfbfkfdkigpkgaa
set_option linter.unusedSimpArgs false
set_option linter.unusedVariables false
open Go.RowKit

/-- A byte, as a cell. -/
def bv (x : Nat) : Value := .int .u8 (x : Int)
theorem bv_one (x : Nat) : (bv x).oneCell' = true := rfl
/-- The type of slices of bytes, and of bytes. -/
structure ByteT (P : Program) (t e : TypeId) : Prop where
  sl : P.underlying t = some (.slice e)
  el : P.underlying e = some (.int .u8)
  info : (P.info? e).map (fun i => (i.zero, i.size, i.bytes)) = some (some (.int .u8 0), 1, 1)

/-- A slice that is read as these bytes, and lies below block B. -/
structure Txt (w : World) (B : Nat) (A : Option Addr) (n c : Nat) (l : List Nat) : Prop where
  len : l.length = n
  nil : A = none → n = 0 ∧ c = 0
  at_ : 0 < n → ∃ ad, A = some ad ∧ ad.block < B ∧ ∀ i x, l[i]? = some x → w.cell? (ad.add i) = some (bv x)
/-- A row of a call's own: these bytes. -/
def Own (w : World) (base : Nat) (e : TypeId) (v : Value) (l : List Nat) : Prop := w.ownsRow base e 1 v l.length (l.map bv)

theorem add_block (a : Addr) (n : Nat) : (a.add n).block = a.block := by unfold Addr.add; split <;> rfl
section
variable {w w' : World} {B B' n c base : Nat} {e : TypeId} {A : Option Addr} {l m : List Nat} {v : Value}
theorem Txt.keep (h : Txt w B A n c l) (hk : ∀ p : Addr, p.block < B → w'.cell? p = w.cell? p) : Txt w' B A n c l :=
  ⟨h.len, h.nil, fun hn => by
    obtain ⟨ad, e, hb, hc⟩ := h.at_ hn
    exact ⟨ad, e, hb, fun i x hx => (hk _ (by rw [add_block]; exact hb)).trans (hc i x hx)⟩⟩
theorem Txt.more (h : Txt w B A n c l) (hB : B ≤ B') : Txt w B' A n c l :=
  ⟨h.len, h.nil, fun hn => by
    obtain ⟨ad, e, hb, hc⟩ := h.at_ hn
    exact ⟨ad, e, by omega, hc⟩⟩
theorem Txt.below (h : Txt w B A n c l) (hb : Below B w w') : Txt w' B A n c l := h.keep fun _ hp => hb.cell hp
theorem Txt.below' (h : Txt w B A n c l) (hb : Below B' w w') (hB : B ≤ B') : Txt w' B A n c l := h.keep fun _ hp => hb.cell (Nat.lt_of_lt_of_le hp hB)
theorem Txt.drew (h : Txt w B A n c l) : Txt w.drew B A n c l := h.keep fun _ _ => rfl
theorem Txt.nil_ : Txt w B none 0 0 [] := ⟨rfl, fun _ => ⟨rfl, rfl⟩, fun h => absurd h (by omega)⟩
theorem Txt.cell (h : Txt w B A n c l) {k : Nat} (hk : k < n) : ∃ ad, A = some ad ∧ ad.block < B ∧ w.cell? (ad.add k) = some (bv (l.getD k 0)) := by
  obtain ⟨ad, e, hb, hc⟩ := h.at_ (by omega)
  have hl : k < l.length := by rw [h.len]; exact hk
  exact ⟨ad, e, hb, hc k _ (by rw [List.getElem?_eq_getElem hl, List.getD_eq_getElem?_getD, List.getElem?_eq_getElem hl]; rfl)⟩
theorem Own.nil_ : Own w base e (.slice none 0 0) [] := ⟨rfl, .inl ⟨rfl, rfl⟩⟩
theorem Own.txt (h : Own w base e v l) : ∃ A c, v = .slice A l.length c ∧ Txt w w.heap.size A l.length c l := by
  have hl := h
  rcases h.2 with ⟨rfl, h0⟩ | ⟨g, cap, cur, rfl, hb, hh, hn, hm, hs, ht⟩
  · exact ⟨none, 0, by rw [h0], ⟨rfl, fun _ => ⟨h0, rfl⟩, fun hn => absurd hn (by omega)⟩⟩
  · refine ⟨some ⟨g, 0, none⟩, cap, rfl, rfl, (fun e => by cases e), fun hn => ⟨_, rfl, ?_, fun i x hx => ?_⟩⟩
    · rcases Nat.lt_or_ge g w.heap.size with h' | h'
      · exact h'
      · rw [Array.getElem?_eq_none h'] at hh; cases hh
    · exact hl.cells (g := g) rfl i (bv x) (by simp [hx])
theorem Own.lt (h : Own w base e v l) : ∀ k, v.ownBlock = some k → base ≤ k ∧ k < w.heap.size := World.ownsRow.lt h
theorem Own.kept {row : Option Nat} (h : Own w base e v l) (hg : w.grownBy w' row) (hne : v.ownBlock = none ∨ v.ownBlock ≠ row) : Own w' base e v l := World.ownsRow.kept h hg hne
theorem Own.drew (h : Own w base e v l) : Own w.drew base e v l := h
theorem Own.alloc (h : Own w base e v l) (o : Obj) : Own (w.alloc o) base e v l := World.ownsRow.alloc h o
theorem Own.mono {base' : Nat} (h : Own w base e v l) (hb : base' ≤ base) : Own w base' e v l := by
  refine ⟨h.1, ?_⟩
  rcases h.2 with h2 | ⟨g, cap, cur, rfl, h3, h4⟩
  · exact .inl h2
  · exact .inr ⟨g, cap, cur, rfl, Nat.le_trans hb h3, h4⟩
/-- What lies below stays, the row too. -/
theorem Own.below (h : Own w base e v l) (hb : Below B w w') (hB : ∀ k, v.ownBlock = some k → k < B) : Own w' base e v l := by
  refine ⟨h.1, ?_⟩
  rcases h.2 with h2 | ⟨g, cap, cur, rfl, h3, hh, h4⟩
  · exact .inl h2
  · exact .inr ⟨g, cap, cur, rfl, h3, by rw [hb.block g (hB g rfl)]; exact hh, h4⟩
/-- A store into another block. -/
theorem Own.setCell {p : Addr} (h : Own w base e v l) (hne : ∀ k, v.ownBlock = some k → k ≠ p.block) (u : Value) : Own (w.setCell p u) base e v l := by
  refine ⟨h.1, ?_⟩
  rcases h.2 with h2 | ⟨g, cap, cur, rfl, h3, hh, h4⟩
  · exact .inl h2
  · exact .inr ⟨g, cap, cur, rfl, h3, by rw [heap_setCell_other _ _ _ _ (hne g rfl)]; exact hh, h4⟩
end

section
variable {P : Program} {w : World}
/-- **Bytes are added to a row of the call's own.** -/
theorem run_append_txt {t e ty : TypeId} (hT : ByteT P t e) {base B : Nat} {v : Value} {l m : List Nat} {A : Option Addr} {n c : Nat} (hown : Own w base e v l) (hr : Txt w B A n c m) (hlen : l.length + n ≤ 140737488355328) (hbase : base ≤ w.heap.size) :
    ∃ v' w', (Builtin.append_ #[t, t] ty #[v, .slice A n c]).run P w = .ok v' w' ∧ Own w' base e v' (l ++ m) ∧ w.grownBy w' v.ownBlock ∧ (v'.ownBlock = v.ownBlock ∨ v'.ownBlock = some w.heap.size) := by
  have hinfo := hT.info
  cases hi : P.info? e with
  | none => rw [hi] at hinfo; cases hinfo
  | some i =>
    rw [hi] at hinfo
    simp only [Option.map_some, Option.some.injEq, Prod.mk.injEq] at hinfo
    obtain ⟨h1, h2, h3⟩ := hinfo
    have hlm : (m.map bv).length = n * 1 := by simp [hr.len]
    have hml : m.length = n := hr.len
    cases A with
    | none =>
      obtain ⟨rfl, rfl⟩ := hr.nil rfl
      obtain rfl : m = [] := List.eq_nil_of_length_eq_zero hml
      have hrun := run_append_owned_none (P := P) (w := w) base t ty e i 1 hT.sl hi v l.length (l.map bv) hown
      exact ⟨v, w, hrun, by simpa using hown, World.grownBy.refl w _, .inl rfl⟩
    | some ad =>
      obtain ⟨v', w', hrun, h5, h6, _, h7⟩ := run_append_own_at (P := P) w base t ty e i (.int .u8 0) 1 1 hT.sl hi h1 h2 h3 rfl (by omega) v l.length (l.map bv) hown ad n c (m.map bv) hlm
        (fun j u hu => by
          have hj : j < m.length := by
            have := (List.getElem?_eq_some_iff.1 hu).1
            simpa using this
          obtain ⟨ad', he, _, hc⟩ := hr.at_ (by omega)
          injection he with he
          subst he
          rw [List.getElem?_map] at hu
          cases hx : m[j]? with
          | none => rw [hx] at hu; cases hu
          | some x =>
            rw [hx] at hu
            simp only [Option.map_some, Option.some.injEq] at hu
            rw [← hu]
            exact hc j x hx)
        (fun u hu => by
          obtain ⟨x, _, rfl⟩ := List.mem_map.1 hu
          rfl) (by unfold maxLen; omega) (by omega) hbase
      refine ⟨v', w', hrun, ?_, h6, h7⟩
      unfold Own
      rw [List.map_append, List.length_append, hml]
      exact h5
theorem wpList_append_txt {ops : Array Oper} {rest : List Oper} {o : Oper} {a : Act} {Q : Exit → Act → World → Prop} {t e : TypeId} {s x : Operand} (hgd : o.guard = none) (ho : o.op = .call { callee := .builtin .append, args := #[s, x], argTypes := #[t, t] })
    (hT : ByteT P t e) {base B : Nat} {v : Value} {l m : List Nat} {A : Option Addr} {n c : Nat} (hs : a.eval s = v) (hx : a.eval x = .slice A n c) (hown : Own w base e v l) (hr : Txt w B A n c m) (hlen : l.length + n ≤ 140737488355328) (hbase : base ≤ w.heap.size)
    (h : ∀ v' w', Own w' base e v' (l ++ m) → w.grownBy w' v.ownBlock → (v'.ownBlock = v.ownBlock ∨ v'.ownBlock = some w.heap.size) → wpList P ops Q rest (a.put o.dst v') w') : wpList P ops Q (o :: rest) a w := by
  obtain ⟨v', w', hrun, h2, h3, h4⟩ := run_append_txt (P := P) (ty := o.type) hT hown hr hlen hbase
  refine wpList_plain hgd fun K hK => ?_
  unfold Oper.wp execOp
  simp only [ho, resolve, invoke, builtin, Sem.run_bind, Sem.run_pure, Result.andThen_ok, List.map_toArray, List.map_cons, List.map_nil, hs, hx, hrun]
  exact hK _ _ (h v' w' h2 h3 h4)
/-- Below the call's own, all stays. -/
theorem own_below {B : Nat} {w0 w1 w2 : World} {base : Nat} {e : TypeId} {v : Value} {l : List Nat} (hb : Below B w0 w1) (hown : Own w1 base e v l) (hg : w1.grownBy w2 v.ownBlock) (hB : B ≤ base) (hs : B ≤ w1.heap.size) : Below B w0 w2 :=
  hb.grown hg hs fun k hk => Nat.le_trans hB (hown.lt k hk).1
/-- A slice of bytes as a string. -/
theorem run_bytes_string {t e dst : TypeId} (hT : ByteT P t e) (hd : P.underlying dst = some .string) {B : Nat} {A : Option Addr} {n c : Nat} {l : List Nat} (hr : Txt w B A n c l) (hl : ∀ x ∈ l, x < 256) :
    (convert t dst (.slice A n c)).run P w = .ok (.string ⟨(l.map UInt8.ofNat).toArray⟩) w := by
  have hln := hr.len
  cases A with
  | none =>
    obtain ⟨rfl, rfl⟩ := hr.nil rfl
    obtain rfl : l = [] := List.eq_nil_of_length_eq_zero hln
    rw [run_convert_bytes_string w t dst e none 0 0 hT.sl hT.el hd]
    rfl
  | some ad =>
    have h := run_convert_bytes_back (P := P) w t dst e ad c (l.map UInt8.ofNat) hT.sl hT.el hd (fun j hj => by
      have hj' : j < l.length := by simpa using hj
      obtain ⟨ad', he, _, hc⟩ := hr.at_ (by omega)
      injection he with he
      subst he
      rw [hc j l[j] (List.getElem?_eq_getElem hj')]
      have := hl _ (List.getElem_mem hj')
      simp only [List.getElem_map, UInt8.toNat_ofNat', bv]
      congr 2
      omega)
    simpa [hln] using h
end
theorem ofNat_inj {l m : List Nat} (hl : ∀ x ∈ l, x < 256) (hm : ∀ x ∈ m, x < 256) : l.map UInt8.ofNat = m.map UInt8.ofNat ↔ l = m := by
  constructor
  · intro h
    have e : ∀ (k : List Nat), (∀ x ∈ k, x < 256) → (k.map UInt8.ofNat).map UInt8.toNat = k := by
      intro k hk
      rw [List.map_map]
      have : ∀ x ∈ k, (UInt8.toNat ∘ UInt8.ofNat) x = id x := fun x hx => by
        simp only [Function.comp, UInt8.toNat_ofNat', id]
        have := hk x hx
        omega
      rw [List.map_congr_left this, List.map_id]
    rw [← e l hl, h, e m hm]
  · intro h; rw [h]
end Go.Proofs.Ytfbfkfdkigpkgaa
