/- Arguments that come in, opened: slices of anything, rows of bytes, structs; a commit. -/
import Derived.Test.YtfbfkfdkigpkgaaLiftT
import Derived.Test.YtfbfkfdkigpkgaaCom
namespace Go.Proofs.Ytfbfkfdkigpkgaa
set_option linter.unusedSimpArgs false
set_option linter.unusedVariables false
open Go.ChangeShapes Go.WideShapes Go.ChangeAt Go.RowKit

theorem pick {α : Type} [Inhabited α] {n : Nat} {p : Nat → α → Prop} (h : ∀ i, i < n → ∃ a, p i a) : ∃ f : Nat → α, ∀ i, i < n → p i (f i) :=
  ⟨fun i => if h' : i < n then Classical.choose (h i h') else default, fun i hi => by simp only [dif_pos hi]; exact Classical.choose_spec (h i hi)⟩
section
variable {H : Type} {enc : TypeId × Value → H} {P : Program} {w : World} {base : Nat} {spare : Nat → Bool} {held : Bool} {t e : TypeId} {v : Value} {fuel : Nat} {x : DataW H × List MemPlace} {cs : List Value}
/-- A field of a struct that comes in. -/
theorem open_field {fs : Array Field} (ht : P.underlying t = some (.struct fs)) (h : DataW.trod enc P w base spare held fuel t cs = some x) (i : Nat) {ty off n : Nat} (hf : (fs[i]?).map (fun f => (f.type, f.offset)) = some (ty, off)) (hn : P.cellsOf ty = n) :
    ∃ (m : Nat) (y : DataW H × List MemPlace), DataW.trod enc P w base spare held m ty ((cs.drop off).take n) = some y := by
  obtain ⟨xs, m, _, _, _, hl, hall⟩ := DataW.trod_struct ht h
  obtain ⟨f, hff, he⟩ := Option.map_eq_some_iff.1 hf
  injection he with h1 h2
  have := hall i f hff
  rw [h1, h2, hn] at this
  have hi : i < xs.length := by
    rw [hl]
    rcases Nat.lt_or_ge i fs.size with h | h
    · exact h
    · rw [Array.getElem?_eq_none h] at hff; cases hff
  rw [List.getElem?_eq_getElem hi] at this
  exact ⟨m, _, this⟩
theorem open_i {k : IntKind} (ht : P.underlying t = some (.int k)) (h : DataW.trod enc P w base spare held fuel t cs = some x) : ∃ n : Int, cs = [.int k n] ∧ (Lit.int k n).wf = true := by
  obtain ⟨n, h1, _, hw⟩ := DataW.trod_int ht h
  exact ⟨n, h1, hw⟩
/-- A row of bytes that comes in. -/
theorem open_row32 (ht : P.underlying t = some (.array 32 e)) (he : P.underlying e = some (.int .u8)) (hce : P.cellsOf e = 1) (h : DataW.trod enc P w base spare held fuel t cs = some x) :
    ∃ f : Nat → Nat, ∀ j, j < 32 → cs[j]? = some (.int .u8 ((f j : Nat) : Int)) ∧ f j < 256 := by
  obtain ⟨xs, m, rfl, hx, hl, hxl, hall⟩ := DataW.trod_array ht h
  refine pick (α := Nat) (p := fun j z => cs[j]? = some (.int .u8 ((z : Nat) : Int)) ∧ z < 256) fun j hj => ?_
  have h1 := hall j hj
  rw [hce, Nat.mul_one, List.getElem?_eq_getElem (by omega)] at h1
  obtain ⟨z, hz, hw⟩ := open_i he h1
  have hb := wfb_u8 hw
  refine ⟨z.toNat, ?_, by omega⟩
  rw [Int.toNat_of_nonneg hb.1]
  have : ((cs.drop j).take 1)[0]? = some (.int .u8 z) := by rw [hz]; rfl
  rw [List.getElem?_take_of_lt (by omega), List.getElem?_drop] at this
  exact this
/-- A slice that comes in: each of its elements. -/
theorem open_els {sz : Nat} (ht : P.underlying t = some (.slice e)) (hc : P.cellsOf e = sz) (h : DataW.trod enc P w base spare held fuel t cs = some x) :
    ∃ (A : Option Addr) (n c : Nat) (el : Nat → List Value), cs = [.slice A n c] ∧ (n : Int) ≤ 9223372036854775807 ∧ (0 < n → ∃ ad, A = some ad ∧ ∀ i j, i < n → j < sz → w.cell? (ad.add (i * sz + j)) = (el i)[j]?) ∧
      ∀ i, i < n → (el i).length = sz ∧ ∃ m y, DataW.trod enc P w base spare held m e (el i) = some y := by
  rcases DataW.trod_slice ht h with ⟨h1, _⟩ | ⟨a, len, cap, elems, rest, n, _, h1, hx, hb, hl, hm, hlen, hel, _⟩
  · exact ⟨none, 0, 0, fun _ => [], h1, by omega, fun h => absurd h (by omega), fun i hi => absurd hi (by omega)⟩
  · have key : ∀ i, i < len → ∃ c : List Value, (c.length = sz ∧ ∃ m y, DataW.trod enc P w base spare held m e c = some y) ∧ ∀ j, j < sz → w.cell? (a.add (i * sz + j)) = c[j]? := by
      intro i hi
      have h2 := hel i hi
      rw [hc, List.getElem?_eq_getElem (by omega)] at h2
      obtain ⟨c, hcs, htr⟩ := Option.bind_eq_some_iff.1 h2
      obtain ⟨_, hcl, hcell⟩ := World.cells?_some hcs
      exact ⟨c, ⟨hcl, n, _, htr⟩, fun j hj => by rw [← Addr.add_add]; exact hcell j hj⟩
    obtain ⟨el, hel2⟩ := pick key
    have hm' : cap ≤ 9223372036854775807 := hm
    exact ⟨some a, len, cap, el, h1, by omega, fun _ => ⟨a, rfl, fun i j hi hj => (hel2 i hi).2 j hj⟩, fun i hi => (hel2 i hi).1⟩
/-- .. as elements. -/
theorem els_of {n sz : Nat} {A : Option Addr} {el : Nat → List Value} {f : Nat → Nat → Value} (hsz : 0 < sz) (h : 0 < n → ∃ ad, A = some ad ∧ ∀ i j, i < n → j < sz → w.cell? (ad.add (i * sz + j)) = (el i)[j]?) (hf : ∀ i, i < n → ∀ j, j < sz → (el i)[j]? = some (f i j)) : Els w w.heap.size A n sz f :=
  ⟨fun hn => by
    obtain ⟨ad, e, hc⟩ := h hn
    refine ⟨ad, e, ?_, fun i j hi hj => (hc i j hi hj).trans (hf i hi j hj)⟩
    have h0 := World.block_lt_of_cell? _ _ ((hc 0 0 hn hsz).trans (hf 0 hn 0 hsz))
    rwa [add_block] at h0⟩
end
theorem drop1 {cs : List Value} {off : Nat} {v : Value} (h : (cs.drop off).take 1 = [v]) : cs[off]? = some v := by
  have : ((cs.drop off).take 1)[0]? = some v := by rw [h]; rfl
  rw [List.getElem?_take_of_lt (by omega), List.getElem?_drop] at this
  exact this
theorem dropj {cs : List Value} {off n j : Nat} {v : Value} (hj : j < n) (h : ((cs.drop off).take n)[j]? = some v) : cs[off + j]? = some v := by
  rw [List.getElem?_take_of_lt hj, List.getElem?_drop] at h
  exact h
instance : Inhabited (Int × Int × (Nat → Nat)) := ⟨(0, 0, fun _ => 0)⟩
/-- What the program's types say. -/
structure ComT (P : Program) (tC tPs tP tK tSs tS tIs tI tU tKs tXs tB tb : TypeId) : Prop where
  fC : ∃ fs : Array Field, P.underlying tC = some (.struct fs) ∧ ∀ (i : Nat) (ty : TypeId) (off : Nat), [(tU, 0), (tI, 1), (tPs, 2), (tK, 3), (tSs, 35), (tKs, 36), (tXs, 37), (tK, 38)][i]? = some (ty, off) → (fs[i]?).map (fun f => (f.type, f.offset)) = some (ty, off)
  fP : ∃ fs : Array Field, P.underlying tP = some (.struct fs) ∧ ∀ (i : Nat) (ty : TypeId) (off : Nat), [(tI, 0), (tI, 1), (tK, 2)][i]? = some (ty, off) → (fs[i]?).map (fun f => (f.type, f.offset)) = some (ty, off)
  fS : ∃ fs : Array Field, P.underlying tS = some (.struct fs) ∧ ∀ (i : Nat) (ty : TypeId) (off : Nat), [(tI, 0), (tI, 1), (tIs, 2)][i]? = some (ty, off) → (fs[i]?).map (fun f => (f.type, f.offset)) = some (ty, off)
  uK : P.underlying tK = some (.array 32 tb)
  ub : P.underlying tb = some (.int .u8)
  uI : P.underlying tI = some (.int .i64)
  uU : P.underlying tU = some (.int .u64)
  uPs : P.underlying tPs = some (.slice tP)
  uSs : P.underlying tSs = some (.slice tS)
  uIs : P.underlying tIs = some (.slice tI)
  uKs : P.underlying tKs = some (.slice tK)
  uXs : P.underlying tXs = some (.slice tB)
  uB : P.underlying tB = some (.slice tb)
  nC : P.cellsOf tC = 70
  nP : P.cellsOf tP = 34
  nS : P.cellsOf tS = 3
  nK : P.cellsOf tK = 32
  nb : P.cellsOf tb = 1
  nI : P.cellsOf tI = 1
  nU : P.cellsOf tU = 1
  n1 : P.cellsOf tPs = 1 ∧ P.cellsOf tSs = 1 ∧ P.cellsOf tIs = 1 ∧ P.cellsOf tKs = 1 ∧ P.cellsOf tXs = 1 ∧ P.cellsOf tB = 1
  zB : ByteT P tB tb
section
variable {H : Type} {enc : TypeId × Value → H} {P : Program} {w : World} {base : Nat} {spare : Nat → Bool} {held : Bool} {fuel : Nat} {x : DataW H × List MemPlace} {cs : List Value} {tC tPs tP tK tSs tS tIs tI tU tKs tXs tB tb : TypeId}
theorem open_prop (T : ComT P tC tPs tP tK tSs tS tIs tI tU tKs tXs tB tb) (h : DataW.trod enc P w base spare held fuel tP cs = some x) : ∃ q : Int × Int × (Nat → Nat), (∀ j, j < 34 → cs[j]? = some (propV q.1 q.2.1 q.2.2 j)) ∧ ∀ j, j < 32 → q.2.2 j < 256 := by
  obtain ⟨fs, hu, hf⟩ := T.fP
  obtain ⟨_, _, h0⟩ := open_field hu h 0 (hf 0 _ _ rfl) T.nI
  obtain ⟨_, _, h1⟩ := open_field hu h 1 (hf 1 _ _ rfl) T.nI
  obtain ⟨_, _, h2⟩ := open_field hu h 2 (hf 2 _ _ rfl) T.nK
  obtain ⟨k, hk, _⟩ := open_i T.uI h0
  obtain ⟨i, hi, _⟩ := open_i T.uI h1
  obtain ⟨f, hf2⟩ := open_row32 T.uK T.ub T.nb h2
  refine ⟨(k, i, f), fun j hj => ?_, fun j hj => (hf2 j hj).2⟩
  unfold propV
  by_cases e0 : j = 0
  · subst e0
    rw [if_pos rfl]
    exact drop1 hk
  · rw [if_neg e0]
    by_cases e1 : j = 1
    · subst e1
      rw [if_pos rfl]
      exact drop1 hi
    · rw [if_neg e1]
      have := dropj (by omega) (hf2 (j - 2) (by omega)).1
      rwa [show 2 + (j - 2) = j from by omega] at this
theorem open_step (T : ComT P tC tPs tP tK tSs tS tIs tI tU tKs tXs tB tb) (h : DataW.trod enc P w base spare held fuel tS cs = some x) : ∃ q : Int × Int × Option Addr × Nat × Nat × (Nat → Int), (∀ j, j < 3 → cs[j]? = some (stepV q.1 q.2.1 q.2.2.1 q.2.2.2.1 q.2.2.2.2.1 j)) ∧ Els w w.heap.size q.2.2.1 q.2.2.2.1 1 fun j _ => .int .i64 (q.2.2.2.2.2 j) := by
  obtain ⟨fs, hu, hf⟩ := T.fS
  obtain ⟨_, _, h0⟩ := open_field hu h 0 (hf 0 _ _ rfl) T.nI
  obtain ⟨_, _, h1⟩ := open_field hu h 1 (hf 1 _ _ rfl) T.nI
  obtain ⟨_, _, h2⟩ := open_field hu h 2 (hf 2 _ _ rfl) T.n1.2.2.1
  obtain ⟨k, hk, _⟩ := open_i T.uI h0
  obtain ⟨i, hi, _⟩ := open_i T.uI h1
  obtain ⟨A, n, c, el, he, _, hel, hall⟩ := open_els T.uIs T.nI h2
  have hv : ∀ j, j < n → ∃ z : Int, el j = [.int .i64 z] := fun j hj => by
    obtain ⟨_, m, y, htr⟩ := hall j hj
    obtain ⟨z, hz, _⟩ := open_i T.uI htr
    exact ⟨z, hz⟩
  obtain ⟨v, hv2⟩ := pick hv
  refine ⟨(k, i, A, n, c, v), fun j hj => ?_, els_of (by omega) hel fun a ha b hb => ?_⟩
  · unfold stepV
    obtain rfl | rfl | rfl : j = 0 ∨ j = 1 ∨ j = 2 := by omega
    · exact drop1 hk
    · exact drop1 hi
    · exact drop1 he
  · obtain rfl : b = 0 := by omega
    rw [hv2 a ha]
    rfl
/-- A commit that comes in. -/
theorem open_com (T : ComT P tC tPs tP tK tSs tS tIs tI tU tKs tXs tB tb) (h : DataW.trod enc P w base spare held fuel tC cs = some x) : ∃ (c : Com) (tg : Nat → Nat), (∀ j, j < 70 → cs[j]? = some (comV c tg j)) ∧ ComOk w w.heap.size c ∧ ComB c ∧ (c.sn : Int) ≤ 9223372036854775807 ∧ (c.bn : Int) ≤ 9223372036854775807 ∧ ∀ j, j < 32 → tg j < 256 := by
  obtain ⟨fs, hu, hf⟩ := T.fC
  obtain ⟨_, _, h0⟩ := open_field hu h 0 (hf 0 _ _ rfl) T.nU
  obtain ⟨_, _, h1⟩ := open_field hu h 1 (hf 1 _ _ rfl) T.nI
  obtain ⟨_, _, h2⟩ := open_field hu h 2 (hf 2 _ _ rfl) T.n1.1
  obtain ⟨_, _, h3⟩ := open_field hu h 3 (hf 3 _ _ rfl) T.nK
  obtain ⟨_, _, h4⟩ := open_field hu h 4 (hf 4 _ _ rfl) T.n1.2.1
  obtain ⟨_, _, h5⟩ := open_field hu h 5 (hf 5 _ _ rfl) T.n1.2.2.2.1
  obtain ⟨_, _, h6⟩ := open_field hu h 6 (hf 6 _ _ rfl) T.n1.2.2.2.2.1
  obtain ⟨_, _, h7⟩ := open_field hu h 7 (hf 7 _ _ rfl) T.nK
  obtain ⟨ep, hep, wep⟩ := open_i T.uU h0
  have bep := wfb_u64 wep
  obtain ⟨by_, hby, _⟩ := open_i T.uI h1
  obtain ⟨PA, pn, pc, elp, hp, _, hpc, hpa⟩ := open_els T.uPs T.nP h2
  obtain ⟨pt, hpt⟩ := open_row32 T.uK T.ub T.nb h3
  obtain ⟨SA, sn, sc, els, hs, bs, hsc, hsa⟩ := open_els T.uSs T.nS h4
  obtain ⟨KA, kn, kc, elk, hk, _, hkc, hka⟩ := open_els T.uKs T.nK h5
  obtain ⟨BA, bn, bc, elb, hb, bb, hbc, hba⟩ := open_els T.uXs T.n1.2.2.2.2.2 h6
  obtain ⟨tg, htg⟩ := open_row32 T.uK T.ub T.nb h7
  obtain ⟨fp, hfp⟩ := pick (α := Int × Int × (Nat → Nat)) (n := pn) (p := fun i q => (∀ j, j < 34 → (elp i)[j]? = some (propV q.1 q.2.1 q.2.2 j)) ∧ ∀ j, j < 32 → q.2.2 j < 256) fun i hi => by
    obtain ⟨_, m, y, htr⟩ := hpa i hi
    exact open_prop T htr
  obtain ⟨fst, hfst⟩ := pick (α := Int × Int × Option Addr × Nat × Nat × (Nat → Int)) (n := sn) (p := fun i q => (∀ j, j < 3 → (els i)[j]? = some (stepV q.1 q.2.1 q.2.2.1 q.2.2.2.1 q.2.2.2.2.1 j)) ∧ Els w w.heap.size q.2.2.1 q.2.2.2.1 1 fun j _ => .int .i64 (q.2.2.2.2.2 j)) fun i hi => by
    obtain ⟨_, m, y, htr⟩ := hsa i hi
    exact open_step T htr
  obtain ⟨fk, hfk⟩ := pick (α := Nat → Nat) (n := kn) (p := fun i f => ∀ j, j < 32 → (elk i)[j]? = some (.int .u8 ((f j : Nat) : Int)) ∧ f j < 256) fun i hi => by
    obtain ⟨_, m, y, htr⟩ := hka i hi
    exact open_row32 T.uK T.ub T.nb htr
  obtain ⟨fb, hfb⟩ := pick (α := Option Addr × Nat × Nat × List Nat) (n := bn) (p := fun i q => elb i = [.slice q.1 q.2.1 q.2.2.1] ∧ Txt w w.heap.size q.1 q.2.1 q.2.2.1 q.2.2.2 ∧ ∀ z ∈ q.2.2.2, z < 256) fun i hi => by
    obtain ⟨hl, m, y, htr⟩ := hba i hi
    obtain ⟨v, hv⟩ : ∃ v, elb i = [v] := by
      match hq : elb i, hl with
      | [v], _ => exact ⟨v, rfl⟩
    rw [hv] at htr
    obtain ⟨A, n, c, m2, rfl, _, htx, hm⟩ := open_txt T.zB T.nb htr
    exact ⟨(A, n, c, m2), hv, htx, hm⟩
  refine ⟨⟨ep.toNat, by_, PA, pn, pc, fun i => (fp i).1, fun i => (fp i).2.1, fun i => (fp i).2.2, pt, SA, sn, sc, fun i => (fst i).1, fun i => (fst i).2.1, fun i => (fst i).2.2.1, fun i => (fst i).2.2.2.1, fun i => (fst i).2.2.2.2.1, fun i => (fst i).2.2.2.2.2, KA, kn, kc, fk, BA, bn, bc, fun i => (fb i).1, fun i => (fb i).2.1, fun i => (fb i).2.2.1, fun i => (fb i).2.2.2⟩, tg, fun j hj => ?_, ⟨?_, ?_, ?_, ?_, ?_, ?_⟩, ⟨?_, ?_, ?_, ?_, ?_⟩, bs, bb, fun j hj => (htg j hj).2⟩
  · unfold comV
    simp only
    by_cases e0 : j = 0
    · subst e0
      rw [if_pos rfl, Int.toNat_of_nonneg bep.1]
      exact drop1 hep
    · rw [if_neg e0]
      by_cases e1 : j = 1
      · subst e1
        rw [if_pos rfl]
        exact drop1 hby
      · rw [if_neg e1]
        by_cases e2 : j = 2
        · subst e2
          rw [if_pos rfl]
          exact drop1 hp
        · rw [if_neg e2]
          by_cases e3 : j < 35
          · rw [if_pos e3]
            have := dropj (by omega) (hpt (j - 3) (by omega)).1
            rwa [show 3 + (j - 3) = j from by omega] at this
          · rw [if_neg e3]
            by_cases e4 : j = 35
            · subst e4
              rw [if_pos rfl]
              exact drop1 hs
            · rw [if_neg e4]
              by_cases e5 : j = 36
              · subst e5
                rw [if_pos rfl]
                exact drop1 hk
              · rw [if_neg e5]
                by_cases e6 : j = 37
                · subst e6
                  rw [if_pos rfl]
                  exact drop1 hb
                · rw [if_neg e6]
                  have := dropj (by omega) (htg (j - 38) (by omega)).1
                  rwa [show 38 + (j - 38) = j from by omega] at this
  · exact els_of (by omega) hpc fun i hi j hj => (hfp i hi).1 j hj
  · exact els_of (by omega) hsc fun i hi j hj => (hfst i hi).1 j hj
  · exact fun i hi => (hfst i hi).2
  · exact els_of (by omega) hkc fun i hi j hj => (hfk i hi j hj).1
  · exact els_of (by omega) hbc fun i hi j hj => by
      obtain rfl : j = 0 := by omega
      rw [(hfb i hi).1]
      rfl
  · exact fun i hi => (hfb i hi).2.1
  · show ep.toNat < _
    omega
  · exact fun i hi => (hfp i hi).2
  · exact fun j hj => (hpt j hj).2
  · exact fun i hi j hj => (hfk i hi j hj).2
  · exact fun i hi => (hfb i hi).2.2
theorem open_comV (T : ComT P tC tPs tP tK tSs tS tIs tI tU tKs tXs tB tb) {r : Reach} {b0 : Nat} {v : Value} {d : DataW H} {p : List MemPlace} (hv : Value.okWide P w r b0 tC v) (h : DataW.Trod enc P w base spare held tC v d p) :
    ∃ (c : Com) (tg : Nat → Nat), v = .agg (arrV 70 (comV c tg)) ∧ ComOk w w.heap.size c ∧ ComB c ∧ (c.sn : Int) ≤ 9223372036854775807 ∧ (c.bn : Int) ≤ 9223372036854775807 ∧ ∀ j, j < 32 → tg j < 256 := by
  obtain ⟨fs, hu, _⟩ := T.fC
  obtain ⟨cs, rfl, hsz⟩ := okWide_struct hu hv
  obtain ⟨fuel, hf⟩ := h
  obtain ⟨c, tg, hcs, h1, h2, h3, h4⟩ := open_com T (cs := cs.toList) hf
  refine ⟨c, tg, congrArg Value.agg ?_, h1, h2, h3, h4⟩
  rw [T.nC] at hsz
  apply Array.ext_getElem?
  intro j
  by_cases hj : j < 70
  · rw [arrV_get _ _ _ hj, ← Array.getElem?_toList]
    exact hcs j hj
  · rw [Array.getElem?_eq_none (by omega), Array.getElem?_eq_none (by rw [arrV_size]; omega)]
end
theorem CT : ComT Try.prog 42 35 75 37 38 71 69 3 25 39 40 22 5 where
  fC := ⟨_, Try.underlying42, fun i ty off h => by rcases i with _ | _ | _ | _ | _ | _ | _ | _ | i <;> simp at h <;> (obtain ⟨rfl, rfl⟩ := h; rfl)⟩
  fP := ⟨_, Try.underlying75, fun i ty off h => by rcases i with _ | _ | _ | i <;> simp at h <;> (obtain ⟨rfl, rfl⟩ := h; rfl)⟩
  fS := ⟨_, Try.underlying71, fun i ty off h => by rcases i with _ | _ | _ | i <;> simp at h <;> (obtain ⟨rfl, rfl⟩ := h; rfl)⟩
  uK := Try.underlying37
  ub := Try.underlying5
  uI := Try.underlying3
  uU := Try.underlying25
  uPs := Try.underlying35
  uSs := Try.underlying38
  uIs := Try.underlying69
  uKs := Try.underlying39
  uXs := Try.underlying40
  uB := Try.underlying22
  nC := by kernel_rfl
  nP := by kernel_rfl
  nS := by kernel_rfl
  nK := by kernel_rfl
  nb := by kernel_rfl
  nI := by kernel_rfl
  nU := by kernel_rfl
  n1 := ⟨by kernel_rfl, by kernel_rfl, by kernel_rfl, by kernel_rfl, by kernel_rfl, by kernel_rfl⟩
  zB := BT
end Go.Proofs.Ytfbfkfdkigpkgaa
