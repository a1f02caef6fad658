/- A buffer that is written nothing. The library's buffer, laid at this program (written by the kit's own tool). Texts are written, one behind the other. Keys of keys, by computing. Layer 6's base point; layer 8's pairs, by computing. Ratchets and epochs begun (layers 12 and 13), by computing. Secrets of nodes; members' ratchets (layer 14), by computing. The sum of a tree of one leaf. Members (layer 17), by computing. ratchet.Check: a range over slices.Backward. Members that may be (layer 17), by computing. Lists held against each other, by computing. Members held against each other (layer 17), b -/
import Derived.Test.YtcmmpiaogfnmoaaGreatDoorStateNewG
import Derived.Lib.Buffer
import Derived.Shelf.Bytes.WriteAny
import Derived.Shelf.Bytes.Bytes
set_option linter.unusedSimpArgs false
set_option linter.unusedVariables false
set_option maxRecDepth 200000
set_option maxHeartbeats 6000000
namespace Go.Proofs.YtcmmpiaogfnmoaaGreatDoor
section
open Go.RowKit
section
variable {P : Program} {o : Oper} {a : Act} {w ws : World} {Q : Exit → Act → World → Prop} {N d : Nat} {l : List (Nat × Value)} {v : Value} {S : Nat → Prop} {K : Act → World → Prop} {x y : Operand}
theorem zB1 {t : TypeId} {A : Option Addr} {n c : Nat} (ho : o.op = .call { callee := .builtin .cap, args := #[x], argTypes := #[t] }) (hx : ev l x = some (.slice A n c)) (ht : zv6 P t = true) : PK P S ws l o (.int .i64 c) := fun w' _ a N E => by
 obtain ⟨e, hu⟩ := zsr ht
 unfold execOp; rw [ho]
 simp [resolve, invoke, builtin, E.ev hx, Builtin.cap_, run_underlying hu, Sem.run_bind, goInt]
theorem zve {dT sT dn dc c : Nat} {A B : Option Addr} (E : Env a N l) (ho : o.op = .call { callee := .builtin .copy, args := #[x, y], argTypes := #[dT, sT] }) (hx : ev l x = some (.slice A dn dc)) (hy : ev l y = some (.slice B 0 c)) (hT : elK P dT = some 1) (h : K (a.put o.dst (.int .i64 0)) w) : o.wp P a w K Q := by
 obtain ⟨e, he, hs⟩ := zo5 hT
 have hr := run_copy_none (P := P) w dT sT o.type e A B dn dc 0 c he hs (Nat.zero_min _)
 unfold Oper.wp execOp
 simp only [ho, resolve, invoke, builtin, Sem.run_bind, Sem.run_pure, Result.andThen_ok, List.map_toArray, List.map_cons, List.map_nil, E.ev hx, E.ev hy, hr]
 exact h
end
theorem znq {b rc : Nat} {lr : Int} {RA : Option Addr} {k : List Nat} (hkl : k.length ≤ 140737488355328) (hrc : rc ≤ 9223372036854775807) {X : List Nat} {w0 : World} (hX : ∀ k ∈ X, k < w0.heap.size) (H0 : Sep X (zad [.blk b (ca [.one (.slice RA k.length rc), .one (.int .i64 0), .one (.int .i8 lr)]) 128, .row (.slice RA k.length rc) 5 1 k.length (k.map bv)]) w0 w0 [.blk b (ca [.one (.slice RA k.length rc), .one (.int .i64 0), .one (.int .i8 lr)]) 128, .row (.slice RA k.length rc) 5 1 k.length (k.map bv)] []) :
  Calls Tryz.prog 124 #[.pointer (some ⟨b, 0, none⟩), .int .i64 0] w0 fun e w' => e = .returned (.tuple #[.int .i64 k.length, .bool true]) ∧ Sep X (zad [.blk b (ca [.one (.slice RA k.length rc), .one (.int .i64 0), .one (.int .i8 lr)]) 128, .row (.slice RA k.length rc) 5 1 k.length (k.map bv)]) w0 w' [.blk b (ca [.one (.slice RA k.length rc), .one (.int .i64 0), .one (.int .i8 lr)]) 128, .row (.slice RA k.length rc) 5 1 k.length (k.map bv)] [] := by
 refine zfR Tryz.ntmps124 Tryz.func124 rfl rfl fun a E => ?_; replace E : Env a _ [(0, _), (1, _)] := E
 have H := H0
 have hcap : k.length ≤ rc := zsu (H0.holds _ (by simp) : (Res.row (.slice RA k.length rc) 5 1 k.length (k.map bv)).holds w0)
 have hH := H0
 refine Vr ?_; refine Vv E pka fun a E => ?_; refine Vv E pka fun a E => ?_; refine Vn ?_; refine wp_seq_k fun K1 hK1 => ?_; refine Vr ?_; refine Vv E pkm fun a E => ?_; refine Vv E (zeX rfl rfl) fun a E => ?_; refine Vv E (zbj (off := 0) rfl rfl (by kernel_rfl)) fun a E => ?_; refine Vv E (pko H 0) fun a E => ?_; refine Vv E pkn fun a E => ?_; refine Vv E pka fun a E => ?_; refine Vn ?_; refine Vr ?_
 refine Vv E pkm fun a E => ?_; refine Vv E pkm fun a E => ?_; refine Vv E (zeX rfl rfl) fun a E => ?_; refine Vv E (zbj (off := 0) rfl rfl (by kernel_rfl)) fun a E => ?_; refine Vv E (pko H 0) fun a E => ?_; refine Vv E (zB1 rfl rfl (by kernel_rfl)) fun a E => ?_; refine Vv E pkm fun a E => ?_; refine Vv E (znX rfl rfl rfl rfl (zv7 (by omega) (by omega))) fun a E => ?_; refine Vv E (zo3 (v := .bool true) rfl rfl rfl (congrArg (fun b => some (Value.bool b)) (decide_eq_true (by omega)))) fun a E => ?_; refine Vn ?_; refine zsh E rfl ?_
 refine Vr ?_; refine Vv E pkm fun a E => ?_; refine Vv E pkm fun a E => ?_; refine Vv E (zeX rfl rfl) fun a E => ?_; refine Vv E (zbj (off := 0) rfl rfl (by kernel_rfl)) fun a E => ?_; refine Vv E (pko H 0) fun a E => ?_; refine Vv E pkm fun a E => ?_; refine Vv E pkm fun a E => ?_; refine Vv E (znX rfl rfl rfl rfl (zv7 (by omega) (by omega))) fun a E => ?_; refine Vv E (zhP (sz := 1) (hi := k.length) rfl (by kernel_rfl) rfl rfl (by omega) hcap) fun a E => ?_
 rw [sub_zero] at E
 refine Vv E (zeX rfl rfl) fun a E => ?_; refine Vv E (zbj (off := 0) rfl rfl (by kernel_rfl)) fun a E => ?_; refine Ws 0 (new := [.one _]) E H fun w H => ?_; replace H : Sep _ _ _ _ [_, _] _ := H; refine Vn ?_; refine Vr ?_; refine Vv E pkm fun a E => ?_; refine Vv E pka fun a E => ?_; refine Vv E pka fun a E => ?_; refine Vn ?_; refine wp_ret ?_
 repeat (first | refine zhq ?_ | refine zfW ?_)
 refine zCN rfl E (zyR rfl) (zyR rfl) ?_
 exact ⟨rfl, H⟩
theorem znr {b rc : Nat} {lr : Int} {RA : Option Addr} {k : List Nat} {A0 : Option Addr} {c0 : Nat} (hkl : k.length ≤ 140737488355328) (hrc : rc ≤ 9223372036854775807) {X : List Nat} {w0 : World} (hX : ∀ k ∈ X, k < w0.heap.size) (H0 : Sep X (zad [.blk b (ca [.one (.slice RA k.length rc), .one (.int .i64 0), .one (.int .i8 lr)]) 128, .row (.slice RA k.length rc) 5 1 k.length (k.map bv)]) w0 w0 [.blk b (ca [.one (.slice RA k.length rc), .one (.int .i64 0), .one (.int .i8 lr)]) 128, .row (.slice RA k.length rc) 5 1 k.length (k.map bv)] []) :
  Calls Tryz.prog 99 #[.pointer (some ⟨b, 0, none⟩), .slice A0 0 c0] w0 fun e w' => e = .returned (.tuple #[.int .i64 0, .nilIface]) ∧ Sep X (zad [.blk b (ca [.one (.slice RA k.length rc), .one (.int .i64 0), .one (.int .i8 lr)]) 128, .row (.slice RA k.length rc) 5 1 k.length (k.map bv)]) w0 w' [.blk b (ca [.one (.slice RA k.length rc), .one (.int .i64 0), .one (.int .i8 0)]) 128, .row (.slice RA k.length rc) 5 1 k.length (k.map bv)] [] := by
 refine zfR Tryz.ntmps99 Tryz.func99 rfl rfl fun a E => ?_; replace E : Env a _ [(0, _), (1, _)] := E
 have H := H0
 have hcap : k.length ≤ rc := zsu (H0.holds _ (by simp) : (Res.row (.slice RA k.length rc) 5 1 k.length (k.map bv)).holds w0)
 have hH := H0
 refine Vr ?_; refine Vv E pka fun a E => ?_; refine Vv E pka fun a E => ?_; refine Vn ?_; refine Vr ?_; refine Vv E pkm fun a E => ?_; refine Vv E (zeX rfl rfl) fun a E => ?_; refine Vv E (zbj (off := 2) rfl rfl (by kernel_rfl)) fun a E => ?_; refine Ws 0 (new := [.one _]) E H fun w H => ?_; replace H : Sep _ _ _ _ [_, _] _ := H; refine Vn ?_; refine Vr ?_; refine Vv E pkm fun a E => ?_; refine Vv E pkm fun a E => ?_; refine Vv E pkn fun a E => ?_; refine Ve E ?_; refine Vc E ?_; refine (znq (b := b) (k := k) (rc := rc) (RA := RA) hkl hrc (Sep.giveA (L1 := [_, _]) (L := []) H).xlt (Sep.giveA (L1 := [_, _]) (L := []) H)).mono ?_; rintro e w ⟨rfl, H1⟩
 replace H := Sep.callA (L1 := [_, _]) (L := []) H H1
 clear H1; replace H : Sep _ _ _ _ [_, _] [] := H; refine Vp E fun a E => ?_; refine Vv E pkm fun a E => ?_; refine Vv E pkx fun a E => ?_; refine Vv E pkx fun a E => ?_; refine Vv E pka fun a E => ?_; refine Vv E pka fun a E => ?_; refine Vn ?_; refine wp_seq_k fun K3 hK3 => ?_; refine Vr ?_; refine Vv E pkm fun a E => ?_; refine Vv E (zyP rfl rfl) fun a E => ?_; refine Vn ?_; refine zsi E rfl ?_; refine wp_skip ?_; refine hK3 _ _ ?_; refine Vr ?_
 refine Vv E pkm fun a E => ?_; refine Vv E (zeX rfl rfl) fun a E => ?_; refine Vv E (zbj (off := 0) rfl rfl (by kernel_rfl)) fun a E => ?_; refine Vv E (pko H 0) fun a E => ?_; refine Vv E pkm fun a E => ?_; refine Vv E (zhQ (sz := 1) (lo := k.length) rfl (by kernel_rfl) rfl rfl rfl (jV _)) fun a E => ?_; refine Vv E pkm fun a E => ?_; refine Ve E ?_; refine zve E rfl rfl rfl (by kernel_rfl) ?_; refine Vp E fun a E => ?_; refine Vv E pka fun a E => ?_
 refine Vv E pka fun a E => ?_; refine Vn ?_; refine wp_ret ?_
 repeat (first | refine zhq ?_ | refine zfW ?_)
 refine zCN rfl E (zyR rfl) (zyR rfl) ?_
 exact ⟨rfl, H⟩
end
section
open Go.Shelf
def zoP : Go.Shelf.Ren := ⟨fun | 180 => 99 | 251 => 124 | 252 => 125 | 181 => 157 | 184 => 158 | 290 => 159 | 324 => 179 | n => n, fun | 130 => 160 | 37 => 72 | 3 => 3 | 75 => 130 | 0 => 0 | 93 => 128 | 91 => 126 | 131 => 114 | 4 => 4 | 20 => 20 | 5 => 5 | 80 => 237 | 9 => 9 | n => n, fun | 14 => 1 | n => n⟩
theorem zB2 : Go.Proofs.LaysM.n180 Tryz.prog zoP := {
 mixed := by kernel_rfl
 f180 := Tryz.func99.trans (congrArg some (by kernel_rfl))
 f181 := Tryz.func157.trans (congrArg some (by kernel_rfl))
 f184 := Tryz.func158.trans (congrArg some (by kernel_rfl))
 f251 := Tryz.func124.trans (congrArg some (by kernel_rfl))
 f252 := Tryz.func125.trans (congrArg some (by kernel_rfl))
 f290 := Tryz.func159.trans (congrArg some (by kernel_rfl))
 f324 := Tryz.func179.trans (congrArg some (by kernel_rfl))
 t0 := Tryz.underlying0
 a0 := Tryz.isAgg0
 z0 := Tryz.sizeOf0
 v0 := Tryz.zeroValue0
 t3 := Tryz.underlying3
 a3 := Tryz.isAgg3
 z3 := Tryz.sizeOf3
 v3 := Tryz.zeroValue3
 t4 := Tryz.underlying4
 a4 := Tryz.isAgg4
 z4 := Tryz.sizeOf4
 v4 := Tryz.zeroValue4
 t20 := Tryz.underlying20
 a20 := Tryz.isAgg20
 z20 := Tryz.sizeOf20
 v20 := Tryz.zeroValue20
 t37 := Tryz.underlying72
 a37 := Tryz.isAgg72
 z37 := Tryz.sizeOf72
 v37 := Tryz.zeroValue72
 t75 := Tryz.underlying130
 a75 := Tryz.isAgg130
 z75 := Tryz.sizeOf130
 v75 := Tryz.zeroValue130
 t91 := Tryz.underlying126
 a91 := Tryz.isAgg126
 z91 := Tryz.sizeOf126
 v91 := Tryz.zeroValue126
 t93 := Tryz.underlying128
 a93 := Tryz.isAgg128
 z93 := Tryz.sizeOf128
 v93 := Tryz.zeroValue128
 t130 := Tryz.underlying160
 a130 := Tryz.isAgg160
 z130 := Tryz.sizeOf160
 v130 := Tryz.zeroValue160
 t131 := Tryz.underlying114
 a131 := Tryz.isAgg114
 z131 := Tryz.sizeOf114
 v131 := Tryz.zeroValue114
 g14 := by kernel_rfl
 t5 := Tryz.underlying5
 a5 := Tryz.isAgg5
 z5 := Tryz.sizeOf5
 v5 := Tryz.zeroValue5
 t9 := Tryz.underlying9
 a9 := Tryz.isAgg9
 z9 := Tryz.sizeOf9
 v9 := Tryz.zeroValue9
 t80 := Tryz.underlying237
 a80 := Tryz.isAgg237
 z80 := Tryz.sizeOf237
 v80 := Tryz.zeroValue237
 i0 := by kernel_rfl
 i3 := by kernel_rfl
 i4 := by kernel_rfl
 i5 := by kernel_rfl
 i9 := by kernel_rfl
 i20 := by kernel_rfl
 i37 := by kernel_rfl
 i75 := by kernel_rfl
 i80 := by kernel_rfl
 i91 := by kernel_rfl
 i93 := by kernel_rfl
 i130 := by kernel_rfl
 i131 := by kernel_rfl
 m14 := by kernel_rfl }
def zoQ : Go.Shelf.Ren := ⟨fun | 183 => 100 | n => n, fun | 130 => 160 | 37 => 72 | 0 => 0 | 93 => 128 | 3 => 3 | 5 => 5 | 91 => 126 | n => n, fun | n => n⟩
theorem zB3 : Go.Proofs.LaysM.n183 Tryz.prog zoQ := {
 mixed := by kernel_rfl
 f183 := Tryz.func100.trans (congrArg some (by kernel_rfl))
 t0 := Tryz.underlying0
 a0 := Tryz.isAgg0
 z0 := Tryz.sizeOf0
 v0 := Tryz.zeroValue0
 t3 := Tryz.underlying3
 a3 := Tryz.isAgg3
 z3 := Tryz.sizeOf3
 v3 := Tryz.zeroValue3
 t37 := Tryz.underlying72
 a37 := Tryz.isAgg72
 z37 := Tryz.sizeOf72
 v37 := Tryz.zeroValue72
 t93 := Tryz.underlying128
 a93 := Tryz.isAgg128
 z93 := Tryz.sizeOf128
 v93 := Tryz.zeroValue128
 t130 := Tryz.underlying160
 a130 := Tryz.isAgg160
 z130 := Tryz.sizeOf160
 v130 := Tryz.zeroValue160
 t5 := Tryz.underlying5
 a5 := Tryz.isAgg5
 z5 := Tryz.sizeOf5
 v5 := Tryz.zeroValue5
 t91 := Tryz.underlying126
 a91 := Tryz.isAgg126
 z91 := Tryz.sizeOf126
 v91 := Tryz.zeroValue126
 i0 := by kernel_rfl
 i3 := by kernel_rfl
 i5 := by kernel_rfl
 i37 := by kernel_rfl
 i91 := by kernel_rfl
 i93 := by kernel_rfl
 i130 := by kernel_rfl }
end
section
open Go.RowKit
def zrO (B b : Nat) (k : List Nat) (w : World) : Prop := Lib.IsBuffer 128 5 B b (k.map bv) w
def zcz (ts : List (List Nat)) : List Nat := ts.flatMap fun t => beL 2 t.length ++ t
def zkQ (m : List Nat) (ts : List (List Nat)) : List Nat × Int := if ∀ t ∈ ts, t.length ≤ 65535 then (m ++ zcz ts, 0) else ([], 4)
theorem zdD (n : Nat) : (beL 2 n).length = 2 := by simp [beL, beK]
theorem zns {ts : List (List Nat)} {i : Nat} {t : List Nat} (h : ts[i]? = some t) : zcz (ts.take (i + 1)) = zcz (ts.take i) ++ beL 2 t.length ++ t := by
 unfold zcz
 rw [List.take_add_one, h, List.flatMap_append]
 simp
theorem zkR (ts : List (List Nat)) (h : ∀ t ∈ ts, t.length ≤ 65535) : (zcz ts).length ≤ 65537 * ts.length := by
 induction ts with
 | nil => simp [zcz]
 | cons t ts ih =>
  have h1 := ih fun x hx => h x (List.mem_cons_of_mem _ hx)
  have h2 := h t (List.mem_cons_self ..)
  have h3 : (beL 2 t.length).length = 2 := by simp [beL, beK]
  have e : zcz (t :: ts) = beL 2 t.length ++ t ++ zcz ts := by simp [zcz]
  rw [e, jQ, jQ, h3, List.length_cons]
  omega
theorem znt (ts : List (List Nat)) (h : ∀ t ∈ ts, ∀ x ∈ t, x < 256) : ∀ x ∈ zcz ts, x < 256 := fun x hx => by
 obtain ⟨t, ht, hx⟩ := List.mem_flatMap.1 hx
 rcases List.mem_append.1 hx with h1 | h1
 ·exact zqi _ _ x h1
 ·exact h t ht x h1
section
variable {X : List Nat} {w0 w w' : World} {L : List Res} {R : List (World → Prop)} {B b c : Nat} {k m : List Nat} {A : Option Addr} {Y : List Nat}
theorem zEk (h : zrO B b k w) (hX : ∀ i ∈ X, i < B) : St (zrO B b k) w X := fun w2 hk => by
 obtain ⟨hB, v, lr, hb, hrow, hne⟩ := h
 refine ⟨hB, v, lr, (hk b (jM hb) fun hm => by have := hX b hm; omega).trans hb, ⟨hrow.1, ?_⟩, hne⟩
 rcases hrow.2 with h2 | ⟨g, cap, cur, rfl, h3, hh, h4⟩
 ·exact .inl h2
 ·exact .inr ⟨g, cap, cur, rfl, h3, (hk g (jM hh) fun hm => by have := hX g hm; omega).trans hh, h4⟩
theorem zvf (hX : ∀ i ∈ X, i < w0.heap.size) (hb : Below w0.heap.size w0 w) (h : zrO w0.heap.size b k w) (hf : ∀ r ∈ R, St r w0 X) : Sep X [] w0 w [] (zrO w0.heap.size b k :: R) :=
 ⟨Frm.of_below hb, hX, fun _ h => (by cases h), List.nodup_nil, fun _ h => (by cases h), fun r hr => by
  rw [zad, List.append_nil]
  rcases List.mem_cons.1 hr with rfl | hr
  ·exact zEk h hX
  ·exact (hf r hr).step hb.size (fun i hi _ => hb.block i hi) fun i hi => .inl hi⟩
theorem zrP (H : Sep X [] w0 w (.blk b (ca [.one (.slice none 0 0), .one (.int .i64 0), .one (.int .i8 0)]) 128 :: L) R) : Sep X [] w0 w L (zrO w0.heap.size b [] :: R) := by
 have hm : w0.heap.size ≤ b := by
  rcases H.mine b (by simp [zad, Res.keys]) with h | h
  ·cases h
  ·exact h
 have hf := H.freezeX (Sep.new_x H)
 refine hf.pop.know ((hf.facts _ (List.mem_cons_self ..)).imp fun w2 h => ⟨hm, .slice none 0 0, 0, h, World.ownsRow_nil _ _ _ _, by simp [Value.ownBlock]⟩)
theorem zeO (H : Sep X [] w0 w [] (zrO w0.heap.size b k :: R)) (hf : ∀ r ∈ R, St r w0 X) (hm : TxF A c m w) (hne : m ≠ [] → ∀ ad, A = some ad → ad.block ≠ b) (hl : k.length + m.length ≤ 140737488355328) :
  Calls Tryz.prog 99 #[.pointer (some ⟨b, 0, none⟩), .slice A m.length c] w fun e w' => ∃ z, e = .returned z ∧ Sep X [] w0 w' [] (zrO w0.heap.size b (k ++ m) :: R) := by
 have hI : zrO w0.heap.size b k w := (H.facts _ (List.mem_cons_self ..)).now
 have hB := H.frm.below
 by_cases h0 : m = []
 ·subst h0
  obtain ⟨hb, v, lr, hh, hrow, hne2⟩ := hI
  have hrow' := hrow
  rw [List.length_map] at hrow'
  obtain ⟨RA, rc, hv, hrc⟩ : ∃ RA rc, v = .slice RA k.length rc ∧ rc ≤ 9223372036854775807 := by
   rcases hrow'.2 with ⟨h1, h2⟩ | ⟨g, cap, cur, h1, h3, _, _, h5, _⟩
   ·exact ⟨none, 0, by rw [h1, h2], by omega⟩
   ·exact ⟨_, _, h1, by unfold maxLen at h5; omega⟩
  subst hv
  have hap : ∀ g, (Value.slice RA k.length rc).ownBlock = some g → g ≠ b ∧ w0.heap.size ≤ g := fun g hg => ⟨fun e => hne2 (by rw [hg, e]), (World.ownsRow.lt hrow' g hg).1⟩
  have HS : Sep [] (zad [.blk b (ca [.one (.slice RA k.length rc), .one (.int .i64 0), .one (.int .i8 lr)]) 128, .row (.slice RA k.length rc) 5 1 k.length (k.map bv)]) w w [.blk b (ca [.one (.slice RA k.length rc), .one (.int .i64 0), .one (.int .i8 lr)]) 128, .row (.slice RA k.length rc) 5 1 k.length (k.map bv)] [] :=
   ⟨Frm.refl _ _, fun _ h => (by cases h), fun r hr => by
    simp only [List.mem_cons, List.not_mem_nil, or_false] at hr
    rcases hr with rfl | rfl
    ·exact hh
    ·refine ⟨hrow'.1, ?_⟩
     rcases hrow'.2 with h2 | ⟨g, cap, cur, h1, h3, h4⟩
     ·exact .inl h2
     ·exact .inr ⟨g, cap, cur, h1, Nat.zero_le _, h4⟩, by
    cases hq : (Value.slice RA k.length rc).ownBlock with
    | none => simp [zad, Res.keys, hq]
    | some g => have := (hap g hq).1; simp [zad, Res.keys, hq, Ne.symm this], fun k hk => .inl hk, fun _ h => (by cases h)⟩
  refine (znr (k := k) (by simpa using hl) hrc (fun _ h => by cases h) HS).mono ?_
  rintro e w2 ⟨rfl, H2⟩
  refine ⟨_, rfl, ?_⟩
  rw [List.append_nil]
  have hlt := hB.size
  refine zvf H.xlt ⟨H2.frm.os.trans hB.os, H2.frm.tape.trans hB.tape, H2.frm.output.trans hB.output, jU hlt H2.frm.size, fun i hi => (H2.frm.block i (by omega) fun hm => ?_).trans (hB.block i hi)⟩ ⟨hb, .slice RA k.length rc, 0, H2.holds (.blk b (ca [.one (.slice RA k.length rc), .one (.int .i64 0), .one (.int .i8 0)]) 128) (by simp), ?_, hne2⟩ hf
  ·simp only [zad, Res.keys, List.mem_append, List.mem_singleton, Option.mem_toList, List.not_mem_nil, or_false] at hm
   rcases hm with h | h
   ·omega
   ·have := (hap i h).2; omega
  ·have h2 : w2.ownsRow 0 5 1 (.slice RA k.length rc) k.length (k.map bv) := H2.holds (.row (.slice RA k.length rc) 5 1 k.length (k.map bv)) (by simp)
   rw [List.length_map]
   refine ⟨h2.1, ?_⟩
   rcases h2.2 with h3 | ⟨g, cap, cur, h1, h3, h4⟩
   ·exact .inl h3
   ·exact .inr ⟨g, cap, cur, h1, (hap g (by rw [h1]; rfl)).2, h4⟩
 ·have hpos : 0 < m.length := List.length_pos_iff.2 h0
  cases A with
  | none => have := (hm.nil rfl).1; omega
  | some ad =>
   have h := Any.Buffer_Write_any zB2 w0.heap.size b (k.map bv) (m.map bv) ad m.length c w hI hB.size (fun v hv => by obtain ⟨z, _, rfl⟩ := List.mem_map.1 hv; rfl) (by simp) (hne h0 ad rfl)
    (by have := zf0 (m := m.length) hm ad rfl; rwa [List.take_length] at this) (fun v hv => by obtain ⟨z, _, rfl⟩ := List.mem_map.1 hv; rfl) (by simpa using hl)
   refine Calls.mono h ?_
   rintro e w2 ⟨rfl, h1, h2, -⟩
   refine ⟨_, rfl, zvf H.xlt (hB.trans h2) ?_ hf⟩
   unfold zrO
   rw [List.map_append]
   exact h1
theorem znu (H : Sep X [] w0 w [] (zrO w0.heap.size b k :: R)) (hf : ∀ r ∈ R, St r w0 X) (hl : k.length ≤ 140737488355328) (hk : ∀ x ∈ k, x < 256) :
  Calls Tryz.prog 100 #[.pointer (some ⟨b, 0, none⟩)] w fun e w' => ∃ A' c', e = .returned (.slice A' k.length c') ∧ Sep X [] w0 w' [] [TxF A' c' k] := by
 have hI : zrO w0.heap.size b k w := (H.facts _ (List.mem_cons_self ..)).now
 have h := Any.Buffer_Bytes zB3 w0.heap.size b (k.map bv) w hI
 refine Calls.mono h ?_
 rintro e w2 ⟨v, rfl, h1, n, rfl⟩
 have h1' : (w.drewN n).ownsRow w0.heap.size 5 1 v k.length (k.map bv) := by have := h1; rwa [List.length_map] at this
 have hb : Below w0.heap.size w0 (w.drewN n) := H.frm.below.trans ⟨rfl, rfl, rfl, jV _, fun _ _ => rfl⟩
 obtain ⟨A', c', rfl, h2⟩ := zn5 (X := X) (w0 := w0) (k := k) H.xlt h1' hb
 exact ⟨A', c', rfl, h2.rowTx (Sep.new_x h2) hl hk⟩
theorem zyu (hX : ∀ i ∈ X, i < w0.heap.size) {n : Nat} (hn : n < 18446744073709551616) :
  Calls Tryz.prog 68 #[.slice none 0 0, .int .i64 2, .int .u64 ((n : Nat) : Int)] w0 fun e w' => ∃ A' c', e = .returned (.slice A' (beL 2 n).length c') ∧ Sep X [] w0 w' [] [TxF A' c' (beL 2 n)] ∧ ∀ q, q < w0.heap.size → ∀ ad, A' = some ad → ad.block ≠ q := by
 refine (zuB (.slice none 0 0) [] w0.heap.size 2 n (by omega) hn (by decide) w0 Own.nil_ (jV _)).mono ?_
 rintro e w2 ⟨⟨v, rfl, ho⟩, hb⟩
 rw [List.nil_append] at ho
 have hlt := ho.lt
 obtain ⟨A', c', rfl, h2⟩ := zn5 (X := X) hX ho hb
 refine ⟨A', c', rfl, h2.rowTx (Sep.new_x h2) (by simp [beL, beK]) (zqi _ _), fun q hq ad hA e => ?_⟩
 subst hA
 have h3 := ho.2
 rcases h3 with ⟨h4, _⟩ | ⟨g, cap, cur, h4, h5, _⟩
 ·cases h4
 ·injection h4 with h4
  injection h4 with h4
  subst h4
  simp only at e
  omega
end
theorem zyv {A TA : Option Addr} {c0 tc : Nat} {m0 : List Nat} {ts : List (List Nat)} {tm : Nat → zat.μ} (hm0 : m0.length ≤ 100000000) (hts : ts.length ≤ 1000000) {X : List Nat} {w0 : World} (hX : ∀ k ∈ X, k < w0.heap.size) (hA : St (TxF A c0 m0) w0 X) (hL : St (LiF zat TA tc ts tm) w0 X) :
  Calls Tryz.prog 69 #[.slice A m0.length c0, .slice TA ts.length tc] w0 fun e w' => ∃ A' c', e = .returned (.tuple #[.slice A' (zkQ m0 ts).1.length c', .int .i64 (zkQ m0 ts).2]) ∧ Sep X [] w0 w' [] [TxF A' c' (zkQ m0 ts).1] := by
 refine zfR Tryz.ntmps69 Tryz.func69 rfl rfl fun a E => ?_; replace E : Env a _ [(0, _), (1, _)] := E
 have H : Sep X [] w0 w0 [] [(TxF A c0 m0), (LiF zat TA tc ts tm)] := Sep.start hX (jJ.2 ⟨hA, jJ.2 ⟨hL, fun _ h => by cases h⟩⟩)
 refine Vr ?_; refine Vv E pka fun a E => ?_; refine Vv E pka fun a E => ?_; refine Vn ?_; refine Vr ?_; refine Wa (z := [.one (.slice none 0 0), .one (.int .i64 0), .one (.int .i8 0)]) E H fun b6 w a H E => ?_
 replace H := zrP H
 replace H : Sep _ _ _ _ [] [_, _, _] := H
 have hb6 : w0.heap.size ≤ b6 := (St.now (H.fact 0 rfl)).1
 refine Vn ?_; refine Vr ?_; refine Vv E pkm fun a E => ?_; refine Ve E ?_; refine Vc E ?_
 have HB := H.refacts (R' := [_, _, _]) (jJ.2 ⟨H.fact 0 rfl, jJ.2 ⟨H.fact 1 rfl, jJ.2 ⟨H.fact 2 rfl, jK _⟩⟩⟩)
 refine (zeO (k := []) HB (jJ.2 ⟨hA, jJ.2 ⟨hL, jK _⟩⟩) (St.now (H.fact 1 rfl)) (fun hne0 ad hA2 => by obtain ⟨z, hz⟩ := List.exists_mem_of_ne_nil _ hne0; obtain ⟨q, hq⟩ := List.mem_iff_getElem?.1 hz; have h1 := World.block_lt_of_cell? _ _ (hA.now.at_ ad hA2 q z hq); rw [zdQ] at h1; omega) (by simp only [List.length_nil]; omega)).mono ?_; rintro e w ⟨z24, rfl, H1⟩
 replace H := H1
 clear H1; replace H : Sep _ _ _ _ [] [_, _, _] := H; refine Vp E fun a E => ?_; clear HB; refine Vn ?_; refine wp_seq_k fun K3 hK3 => ?_; refine Vr ?_; refine Vv E pkm fun a E => ?_; refine Vv E pkn fun a E => ?_; refine Vv E pkm fun a E => ?_; refine Vn ?_; refine wp_block ?_
 refine zzI (γ := Nat) [6, 11, 12] (fun i => [(13, .int .i64 (i : Int))]) (fun i => []) (fun i => [zrO w0.heap.size b6 (m0 ++ zcz (ts.take i)), TxF A c0 m0, LiF zat TA tc ts tm]) (fun i => i ≤ ts.length ∧ ∀ t ∈ ts.take i, t.length ≤ 65535) (fun i => ts.length - i) (0) E (by show Sep _ _ _ _ [] [zrO _ _ (m0 ++ zcz (ts.take 0)), _, _]; rw [jI, show zcz [] = [] from rfl, List.append_nil]; exact H) (by repeat (first | exact trivial | refine ⟨rfl, ?_⟩)) (⟨Nat.zero_le _, fun t ht => by simp at ht⟩) ?_; clear E H; intro i a w E H hφ; replace E : Env a _ [(13, _), (6, _), (11, _), (12, _)] := E; replace H : Sep _ _ _ _ [] [_, _, _] := H
 obtain ⟨hφ, hsm⟩ := hφ
 refine Vr ?_; refine Vv E pki fun a E => ?_; refine Vn ?_; refine wp_seq_k fun K6 hK6 => ?_; refine zk7 (d := 14) E rfl ?_ ?_
 ·skip
  clear E; intro c14 E
  have hi : i < ts.length := by have := c14; simp only [jS] at this; omega
  have hx0 : ts[i]? = some ts[i] := jP hi
  obtain ⟨adi, hti⟩ := LiF.get hL hx0
  obtain ⟨_, hti⟩ := hti
  have hel : (m0 ++ zcz (ts.take i)).length = m0.length + (zcz (ts.take i)).length := jQ ..
  have hel2 := zkR (ts.take i) hsm
  rw [List.length_take] at hel2
  refine zsh E rfl ?_; refine wp_skip ?_; refine hK6 _ _ ?_; refine wp_seq_k fun K7 hK7 => ?_; refine wp_block ?_; refine Vr ?_
  obtain ⟨ad15, hA15, hc15, hn15⟩ := LiF.get (A := TA) (T := zat) (i := i) (x := ts[i]) (by exact H.fact 2 rfl) hx0
  refine Vv E (zCL (sz := 1) hA15 rfl (by kernel_rfl) rfl rfl rfl (by omega)) fun a E => ?_
  replace H := (H.know hn15).know hc15
  clear hn15 hc15; replace H : Sep _ _ _ _ _ [_, _, _, _, _] := H; refine Vv E (zso (H.fact 0 rfl) (fun _ _ _ => trivial) rfl rfl rfl (by kernel_rfl)) fun a E => ?_; refine Vv E pka fun a E => ?_; refine Vn ?_; refine wp_seq_k fun K9 hK9 => ?_; refine Vr ?_; refine Vv E pkm fun a E => ?_; refine Vv E pkn fun a E => ?_; refine Vv E pki fun a E => ?_; refine Vn ?_; refine zk7 (d := 19) E rfl ?_ ?_
  ·skip
   clear E; intro c19 E
   have hbig : ¬ ts[i].length ≤ 65535 := by have := c19; simp only [jS] at this; omega
   have htv : zkQ m0 ts = ([], 4) := by unfold zkQ; rw [if_neg (fun h => hbig (h _ (List.getElem_mem hi)))]
   refine zsh E rfl ?_; refine Vr ?_; refine Vv E pka fun a E => ?_; refine Vv E pka fun a E => ?_; refine Vn ?_; refine wp_ret ?_
   repeat (first | refine zhq ?_ | refine zfW ?_)
   refine zCN rfl E (zyR rfl) (zyR rfl) ?_
   rw [htv]
   exact ⟨none, 0, rfl, (H.know zjM).refacts (jJ.2 ⟨zjM, jK _⟩)⟩
  ·skip
   clear E; intro c19 E
   have hle : ts[i].length ≤ 65535 := by have := c19; simp only [decide_eq_false_iff_not] at this; omega
   refine zsi E rfl ?_; refine wp_skip ?_; refine hK9 _ _ ?_; refine Vr ?_; refine Vv E pkm fun a E => ?_; refine Vv E pkn fun a E => ?_; refine Vv E (zwn rfl rfl (by kernel_rfl) (by kernel_rfl) (zq7 (by omega) (by omega))) fun a E => ?_; refine Ve E ?_; refine Vc E ?_
   have hbl : b6 < w.heap.size := Lib.IsBuffer.lt (St.now (H.fact 2 rfl))
   refine (zyu (n := ts[i].length) H.xk (by omega)).mono ?_; rintro e w ⟨A23, c23, rfl, H1, hq23⟩
   replace H := H.call H1
   clear H1; replace H : Sep _ _ _ _ [] [_, _, _, _, _, _] := H; refine Vp E fun a E => ?_
   have hne23 := hq23 _ hbl
   clear hq23 hbl; refine Ve E ?_; refine Vc E ?_
   have HB := H.refacts (R' := [_, _, _]) (jJ.2 ⟨H.fact 3 rfl, jJ.2 ⟨H.fact 4 rfl, jJ.2 ⟨H.fact 5 rfl, jK _⟩⟩⟩)
   refine (zeO (k := (m0 ++ zcz (ts.take i))) HB (jJ.2 ⟨hA, jJ.2 ⟨hL, jK _⟩⟩) (St.now (H.fact 0 rfl)) (fun _ => hne23) (by rw [hel, zdD]; omega)).mono ?_; rintro e w ⟨z24, rfl, H1⟩
   replace H := H1
   clear H1; replace H : Sep _ _ _ _ [] [_, _, _] := H; refine Vp E fun a E => ?_; clear HB; refine Vn ?_; refine zjL ?_; refine Vv E pkm fun a E => ?_; refine Ve E ?_; refine Vc E ?_
   have HB := H.refacts (R' := [_, _, _]) (jJ.2 ⟨H.fact 0 rfl, jJ.2 ⟨H.fact 1 rfl, jJ.2 ⟨H.fact 2 rfl, jK _⟩⟩⟩)
   refine (zeO (k := ((m0 ++ zcz (ts.take i)) ++ beL 2 ts[i].length)) HB (jJ.2 ⟨hA, jJ.2 ⟨hL, jK _⟩⟩) (St.now (hti.2.step H.frm.size (fun q hq _ => H.frm.block q hq (by simp)) (fun q hq => .inl hq))) (fun hne0 ad hA2 => by obtain ⟨z, hz⟩ := List.exists_mem_of_ne_nil _ hne0; obtain ⟨q, hq⟩ := List.mem_iff_getElem?.1 hz; have h1 := World.block_lt_of_cell? _ _ (hti.2.now.at_ ad hA2 q z hq); rw [zdQ] at h1; omega) (by rw [jQ, hel, zdD]; omega)).mono ?_; rintro e w ⟨z24, rfl, H1⟩
   replace H := H1
   clear H1; replace H : Sep _ _ _ _ [] [_, _, _] := H; refine Vp E fun a E => ?_; clear HB; refine hK7 _ _ ?_; refine zjL ?_; refine Vv E (znX rfl rfl rfl rfl (zv7 (by omega) (by omega))) fun a E => ?_; refine Vv E pkm fun a E => ?_
   rw [show (m0 ++ zcz (ts.take i)) ++ beL 2 ts[i].length ++ ts[i] = m0 ++ zcz (ts.take (i + 1)) from by rw [zns hx0]; simp only [List.append_assoc]] at H
   refine zwu ?_
   exact ⟨i + 1, ⟨E.to (by repeat (first | exact trivial | refine ⟨rfl, ?_⟩)), H, ⟨by omega, fun t ht => by rw [List.take_add_one, hx0] at ht; rcases List.mem_append.1 ht with h1 | h1; exact hsm t h1; simp only [Option.toList_some, List.mem_singleton] at h1; subst h1; exact hle⟩⟩, by omega⟩
 ·skip
  clear E; intro c14 E
  obtain rfl : i = ts.length := by have := c14; simp only [decide_eq_false_iff_not] at this; omega
  rw [List.take_length] at H hsm
  have hall := hsm
  have htv : zkQ m0 ts = (m0 ++ zcz ts, 0) := by unfold zkQ; rw [if_pos hall]
  have hbyte : ∀ x ∈ m0 ++ zcz ts, x < 256 := fun x hx => by
   rcases List.mem_append.1 hx with h1 | h1
   ·exact hA.now.byt x h1
   ·exact znt ts (fun t ht => by
     obtain ⟨q, hq⟩ := List.mem_iff_getElem?.1 ht
     obtain ⟨_, _, _, h3⟩ := LiF.get hL hq
     exact (St.now h3 : TxF _ _ _ _).byt) x h1
  refine zsi E rfl ?_; refine wp_exit ?_
  repeat (first | refine zsp ?_ | refine zsq ?_ | refine zq8 (by decide) ?_)
  refine hK3 _ _ ?_; refine Vr ?_; refine Ve E ?_; refine Vc E ?_; refine (znu (k := m0 ++ zcz ts) H (jJ.2 ⟨hA, jJ.2 ⟨hL, jK _⟩⟩) (by rw [jQ]; have := zkR ts hall; omega) hbyte).mono ?_; rintro e w ⟨A28, c28, rfl, H1⟩
  replace H := H1
  clear H1; replace H : Sep _ _ _ _ [] [_] := H; refine Vp E fun a E => ?_; refine Vv E pka fun a E => ?_; refine Vv E pka fun a E => ?_; refine Vn ?_; refine wp_ret ?_
  repeat (first | refine zhq ?_ | refine zfW ?_)
  refine zCN rfl E (zyR rfl) (zyR rfl) ?_
  rw [htv]
  exact ⟨A28, c28, rfl, H⟩
end
section
open Go.RowKit
def okT (ts : List (List Nat)) : Prop := ∀ t ∈ ts, t.length ≤ 65535
theorem zyw {m : List Nat} {ts : List (List Nat)} (h : okT ts) : zkQ m ts = (m ++ zcz ts, 0) := by unfold zkQ; exact if_pos h
def zk1 : List Nat := [99, 111, 116, 101, 114, 105, 101]
def zfb (gt : Nat → Nat) (k lab : List Nat) (ts : List (List Nat)) : List Nat := zrC gt k (zcz (zk1 :: lab :: ts)) 32
def zjx (ts : List (List Nat)) : Prop := ts.length ≤ 100 ∧ ∀ t ∈ ts, t.length ≤ 1000
theorem zbi : zjx [] := ⟨by show 0 ≤ 100; decide, fun t h => by cases h⟩
theorem znv {ts : List (List Nat)} (h : zjx ts) : okT ts := fun t ht => by have := h.2 t ht; omega
theorem zgX : ∀ (ts : List (List Nat)), (∀ t ∈ ts, t.length ≤ 1000) → (zcz ts).length ≤ 1002 * ts.length
 | [], _ => jV _
 | t :: ts, h => by
  have h1 := zgX ts fun t ht => h t (List.mem_cons_of_mem _ ht)
  have h2 := h t (List.mem_cons_self ..)
  show ((beL 2 t.length ++ t) ++ zcz ts).length ≤ _
  rw [jQ, jQ, zdD, List.length_cons]
  omega
theorem zqQ (a b : List Nat) (ts : List (List Nat)) : zcz [a, b] ++ zcz ts = zcz (a :: b :: ts) := by
 unfold zcz
 rw [← List.flatMap_append]
 rfl
theorem zcv (gt : Nat → Nat) (k lab : List Nat) (ts : List (List Nat)) : (zfb gt k lab ts).length = 32 := ze8 _ _ _ _
theorem zbs (gt : Nat → Nat) (k lab : List Nat) (ts : List (List Nat)) : ∀ x ∈ zfb gt k lab ts, x < 256 := zux _ _ _ _
theorem zvg {lab : List Nat} (h : lab.length ≤ 100) : okT [zk1, lab] := fun t ht => by
 simp only [List.mem_cons, List.not_mem_nil, or_false] at ht
 rcases ht with rfl | rfl
 ·show 7 ≤ 65535; decide
 ·omega
section
variable {X : List Nat} {w : World} {gt : Nat → Nat} {ts : List (List Nat)} {q q2 : Qd}
theorem zoR {m0 : List Nat} (hok : okT ts) (hm0 : m0.length ≤ 100000000) (hts : ts.length ≤ 1000000) (hX : ∀ k ∈ X, k < w.heap.size) (hA : St (TxQ m0 q) w X) (hL : St (SlQ zat ts q2) w X) : Ct Tryz.prog 69 [.slice q.1 m0.length q.2, .slice q2.1 ts.length q2.2] X w (.tup [.s (.p (.hd 0 (m0 ++ zcz ts).length)), .s (.p (.v (.int .i64 0)))]) [.gone] [.sl 0 (m0 ++ zcz ts).length (TxG (m0 ++ zcz ts))] := by
 obtain ⟨mm, hm⟩ := zog zic hL
 refine (zyv hm0 hts hX (zee hA) hm).mono ?_
 rintro e w' ⟨A', c', rfl, HS⟩
 rw [zyw hok] at HS ⊢
 refine ⟨hnQ [(A', c')], rfl, HS.refacts fun r hr => ?_⟩
 rcases List.mem_singleton.1 hr with rfl
 exact (HS.facts _ (List.mem_cons_self ..)).imp fun w2 hw => ⟨fun e => (hw.nil e).1, hw⟩
theorem zgx {s : ByteArray} {kk lab : List Nat} (hs : s.data.toList.map UInt8.toNat = lab) (hlab : lab.length ≤ 100) (hk32 : kk.length = 32) (hkb : ∀ x ∈ kk, x < 256) (hts : zjx ts) (hX : ∀ k ∈ X, k < w.heap.size) (hL : St (SlQ zat ts q) w X) (hG : St (zbm gt 2) w X) : Ct Tryz.prog 41 [.agg (ca [.key kk]), .string s, .slice q.1 ts.length q.2] X w (.tup [.agg [.key (zfb gt kk lab ts)], .s (.p (.v (.int .i64 0)))]) [] [] := by
 have hst := hts.1
 have hsl := zgX ts hts.2
 have hs2 : (zcz [zk1, lab]).length = 11 + lab.length := by
  show ((beL 2 zk1.length ++ zk1) ++ ((beL 2 lab.length ++ lab) ++ [])).length = _
  rw [jQ, jQ, jQ, jQ, zdD, zdD]
  show 2 + 7 + (2 + lab.length + 0) = _
  omega
 have hln : (zcz [zk1, lab] ++ zcz ts).length ≤ 1048576 := by rw [jQ]; omega
 refine vFn (k0 := 1) (rs := [.cell 6 23, .tmp 7]) (svs := [.a (.agg [.key kk]), zfM (.string s), .a (.s (.p (.hd 0 ts.length)))]) (R0 := [.sl 0 ts.length (SlF zat ts), .c (zbm gt 2)]) (hnQ [q]) Tryz.ntmps41 Tryz.func41 rfl rfl rfl rfl rfl zah (by kernel_rfl) hX (fun r hr => by
  rcases List.mem_cons.1 hr with rfl | hr
  ·exact hL
  ·rcases List.mem_singleton.1 hr with rfl; exact hG) ?_
 conv => whnf
 refine zao (zdW (i := 3) (n := 7) (e := 5) rfl rfl rfl (by kernel_rfl) (by kernel_rfl)) ?_
 conv => whnf
 refine zbH (zpX (e := 5) lab rfl rfl (by kernel_rfl) (by kernel_rfl) (by kernel_rfl) hs (by omega)) rfl rfl ?_
 conv => whnf
 obtain ⟨t1, ht1⟩ : ∃ t1, t1 = [] ++ zcz [zk1, lab] := ⟨_, rfl⟩
 have ht1e : t1 = zcz [zk1, lab] := by rw [ht1, List.nil_append]
 refine zaI (zaG [5] rfl rfl (zan (sv := .tup [.s (.p (.hd 6 t1.length)), .s (.p (.v (.int .i64 0)))]) (rs := [.gone]) (Rs := [.sl 6 t1.length (TxG t1)]) (zaa (sv := .tup [.s (.p (.hd 0 t1.length)), .s (.p (.v (.int .i64 0)))]) (rs := [.gone]) (Rs := [.sl 0 t1.length (TxG t1)]) rfl rfl rfl (by kernel_rfl) rfl fun h X w H => ?_) rfl rfl)) ?_
 ·have h5 := H.fact 0 rfl
  have h3 := H.fact 2 rfl
  have := zoR (m0 := []) (ts := [zk1, lab]) (q := (none, 0)) (q2 := (some ⟨h.b 5, 0, none⟩, 2)) (zvg hlab) (by simp) (by simp) H.xk zh6 (zbI (ql := [(some ⟨h.b 3, 0, none⟩, 7), h.r 4]) rfl (by simp) h5 fun t x hx => by
   match t with
   | 0 => obtain rfl := Option.some.inj hx; exact zer h3 rfl (jV _) (by decide) (by decide)
   | 1 => obtain rfl := Option.some.inj hx; exact zee (H.fact 1 rfl)
   | t + 2 => simp at hx)
  rw [← ht1] at this
  exact this
 conv => whnf
 refine .inl ?_
 conv => whnf
 obtain ⟨t2, ht2⟩ : ∃ t2, t2 = t1 ++ zcz ts := ⟨_, rfl⟩
 refine zac (sv := .tup [.s (.p (.hd 0 t2.length)), .s (.p (.v (.int .i64 0)))]) (rs := [.gone]) (Rs := [.sl 0 t2.length (TxG t2)]) rfl rfl rfl (by kernel_rfl) (fun h X w H => by
  have := zoR (m0 := t1) (ts := ts) (q := h.r 6) (q2 := h.r 0) (znv hts) (by rw [ht1e]; omega) (by omega) H.xk (H.fact 0 rfl) (H.fact 4 rfl)
  rw [← ht2] at this
  exact this) rfl rfl rfl ?_
 conv => whnf
 refine zac (sv := .tup [.s (.p (.hd 0 32)), .s (.p (.v (.int .i64 0)))]) (rs := [.gone]) rfl rfl rfl (by kernel_rfl) (fun h X w H => zuz (n := 32) hk32 hkb (by decide) (by rw [ht2, ht1e]; exact hln) H.xk (H.fact 0 rfl) (H.fact 6 rfl)) rfl rfl rfl ?_
 conv => whnf
 refine za8 (zAi 0 rfl (by rw [ze8]; decide) rfl (by kernel_rfl) rfl (by decide)) rfl rfl ?_
 conv => whnf
 refine za8 (zAj 0 rfl (by rw [ze8]; decide) rfl rfl (by kernel_rfl)) rfl rfl ?_
 conv => whnf
 refine zag ?_
 rw [ht2, ht1e, zqQ]
 rfl
end
end
section
open Go.RowKit
def zkS (kk : List Nat) : List Nat := zg6 (zaO (zdu (fun i => kk.getD i 0) 9))
theorem znw (kk : List Nat) : (zkS kk).length = 32 := zp9 _
theorem zjy (kk : List Nat) : ∀ x ∈ zkS kk, x < 256 := fun x hx => by
 obtain ⟨i, _, rfl⟩ := List.mem_map.1 hx
 exact zkm _ _
def zB4 : List Nat := [112, 97, 105, 114]
def zvh (gt : Nat → Nat) (seed : List Nat) : List Nat := zfb gt seed zB4 []
section
variable {X : List Nat} {w : World} {kk : List Nat} {gt : Nat → Nat}
theorem zB5 (hX : ∀ k ∈ X, k < w.heap.size) (hk : ∀ x ∈ kk, x < 256) : Ct Tryz.prog 72 [.agg (ca [.key kk])] X w (.a (.agg [.key (zkS kk)])) [] [] := by
 have e9 : zjo (fun i => ([9] : List Nat).getD i 0) = 9 := by
  rw [show (fun i => ([9] : List Nat).getD i 0) = fun i => if i = 0 then 9 else 0 from funext fun i => by cases i <;> rfl]
  exact zm7
 refine vFn (k0 := 0) (rs := [.cell 2 23]) (svs := [.a (.agg [.key kk])]) (R0 := []) (hnQ []) Tryz.ntmps72 Tryz.func72 rfl rfl rfl rfl rfl zah (by kernel_rfl) hX (fun r hr => by cases hr) ?_
 conv => whnf
 refine zof (.a (.agg [.key [9]])) (fun h w => zhS (n := 32) (z := [.one (bv 0), .row 31 fun _ => bv 0]) [.key [9]] rfl (by kernel_rfl) (by kernel_rfl) ⟨_, [.one _], 0, _, rfl, rfl, rfl, rfl, rfl⟩ (by kernel_rfl)) rfl rfl ?_
 conv => whnf
 refine zac rfl rfl rfl (by kernel_rfl) (fun h X w H => zA7 (kk := kk) (uu := [9]) H.xk hk (by decide)) rfl rfl rfl ?_
 rw [e9]
 conv => whnf
 exact zag rfl
theorem zrQ {s : ByteArray} {lab : List Nat} (hs : s.data.toList.map UInt8.toNat = lab) (hlab : lab.length ≤ 100) (hk32 : kk.length = 32) (hkb : ∀ x ∈ kk, x < 256) (hX : ∀ k ∈ X, k < w.heap.size) (hG : St (zbm gt 2) w X) : Ct Tryz.prog 71 [.agg (ca [.key kk]), .string s] X w (.a (.agg [.key (zfb gt kk lab [])])) [] [] := by
 refine vFn (k0 := 0) (rs := [.cell 4 23]) (svs := [.a (.agg [.key kk]), zfM (.string s)]) (R0 := [.c (zbm gt 2)]) (hnQ []) Tryz.ntmps71 Tryz.func71 rfl rfl rfl rfl rfl zah (by kernel_rfl) hX (fun r hr => by rcases List.mem_singleton.1 hr with rfl; exact hG) ?_
 conv => whnf
 refine zac rfl rfl rfl (by kernel_rfl) (fun h X w H => zgx (ts := []) (q := (none, 0)) hs hlab hk32 hkb zbi H.xk za7 (H.fact 0 rfl)) rfl rfl rfl ?_
 conv => whnf
 exact zag rfl
theorem zB6 (hk32 : kk.length = 32) (hkb : ∀ x ∈ kk, x < 256) (hX : ∀ k ∈ X, k < w.heap.size) (hG : St (zbm gt 2) w X) : Ct Tryz.prog 42 [.agg (ca [.key kk])] X w (.tup [.agg [.key (zvh gt kk)], .agg [.key (zkS (zvh gt kk))]]) [] [] := by
 refine vFn (k0 := 0) (rs := [.cell 2 23, .cell 3 23]) (svs := [.a (.agg [.key kk])]) (R0 := [.c (zbm gt 2)]) (hnQ []) Tryz.ntmps42 Tryz.func42 rfl rfl rfl rfl rfl zah (by kernel_rfl) hX (fun r hr => by rcases List.mem_singleton.1 hr with rfl; exact hG) ?_
 conv => whnf
 refine zac rfl rfl rfl (by kernel_rfl) (fun h X w H => zrQ (lab := zB4) rfl (by decide) hk32 hkb H.xk (H.fact 0 rfl)) rfl rfl rfl ?_
 conv => whnf
 refine zas 3 [] (by kernel_rfl) ?_
 conv => whnf
 refine zaq (zaa (rs := []) (Rs := []) rfl rfl rfl (by kernel_rfl) rfl fun h X w H => zB5 H.xk (zbs _ _ _ _)) ?_
 conv => whnf
 exact zag rfl
end
end
section
open Go.RowKit
section
variable {X : List Nat} {w : World} {kk : List Nat} {gt : Nat → Nat} {q : Qd}
theorem zvi {W n b : Nat} (h1 : 1 ≤ W) (h8 : W ≤ 8) (hn : n < 18446744073709551616) (hf : n < 256 ^ W) (hX : ∀ k ∈ X, k < w.heap.size) (hb : St (AtC ⟨b, 0, none⟩ [.one (.int .u64 ((n : Nat) : Int))]) w X) : Ct Tryz.prog 40 [.slice none 0 0, .int .i64 W, .slice (some ⟨b, 0, none⟩) 1 1] X w (.tup [.s (.p (.hd 0 (beL W n).length)), .s (.p (.v (.int .i64 0)))]) [.gone] [.sl 0 (beL W n).length (TxG (beL W n))] := by
 have hc : w.cell? ⟨b, 0, none⟩ = some (.int .u64 ((n : Nat) : Int)) := by have := hb.now 0 _ rfl; rwa [zav] at this
 refine (zBn none 0 0 [] (by omega) W n h1 h8 hn hf b w (World.block_lt_of_cell? _ _ hc) hc (TxF.nil_ (w := w)).txt).mono ?_
 rintro e w2 ⟨v, rfl, ho, hbl⟩
 rw [List.nil_append] at ho
 obtain ⟨A', c', rfl, h2⟩ := zn5 (X := X) hX ho hbl
 have h3 := h2.rowTx (Sep.new_x h2) (by simp [beL, beK]; omega) (zqi _ _)
 refine ⟨hnQ [(A', c')], rfl, h3.refacts fun r hr => ?_⟩
 rcases List.mem_singleton.1 hr with rfl
 exact (h3.facts _ (List.mem_cons_self ..)).imp fun w2 hw => ⟨fun e => (hw.nil e).1, hw⟩
def zkT : List Nat := [115, 101, 110, 100, 101, 114]
def ziG (gt : Nat → Nat) (app : List Nat) (n : Nat) : List Nat := zfb gt app zkT [beL 4 n]
def zzv (chain : List Nat) (g : Nat) (x : SP) : SA := .agg [.key chain, .one (.p (.v (.int .u64 ((g : Nat) : Int)))), .one (.p x)]
def zzw : SP := .v (.slice none 0 0)
theorem znx {t : List Nat} (h : t.length ≤ 1000) : zjx [t] := ⟨by show 1 ≤ 100; decide, fun x hx => by rcases List.mem_singleton.1 hx with rfl; exact h⟩
theorem zny {n : Nat} (hn : n ≤ 1048576) (hk32 : kk.length = 32) (hkb : ∀ x ∈ kk, x < 256) (hX : ∀ k ∈ X, k < w.heap.size) (hG : St (zbm gt 2) w X) : Ct Tryz.prog 15 [.agg (ca [.key kk]), .int .i64 n] X w (.tup [zzv (ziG gt kk n) 0 zzw, .s (.p (.v (.int .i64 0)))]) [] [] := by
 refine vFn (k0 := 0) (rs := [.cell 4 46, .tmp 5]) (svs := [.a (.agg [.key kk]), zam .i64 n]) (R0 := [.c (zbm gt 2)]) (hnQ []) Tryz.ntmps15 Tryz.func15 rfl rfl rfl rfl rfl zah (by kernel_rfl) hX (fun r hr => by rcases List.mem_singleton.1 hr with rfl; exact hG) ?_
 conv => whnf
 refine vF (decide_eq_false (by omega)) ?_
 conv => whnf
 refine zwc (by omega) (by omega) ?_
 conv => whnf
 obtain ⟨nb, hnb⟩ : ∃ nb, nb = beL 4 n := ⟨_, rfl⟩
 have hnl : nb.length = 4 := by rw [hnb]; simp [beL, beK]
 refine zaI (zaG [2] rfl rfl (zan (sv := .tup [.s (.p (.hd 3 nb.length)), .s (.p (.v (.int .i64 0)))]) (rs := [.gone]) (Rs := [.sl 3 nb.length (TxG nb)]) (zaa (sv := .tup [.s (.p (.hd 0 nb.length)), .s (.p (.v (.int .i64 0)))]) (rs := [.gone]) (Rs := [.sl 0 nb.length (TxG nb)]) rfl rfl rfl (by kernel_rfl) rfl fun h X w H => ?_) rfl rfl)) ?_
 ·rw [hnb]
  exact zvi (W := 4) (n := n) (b := h.b 2) (by decide) (by decide) (by omega) (by omega) H.xk (H.fact 0 rfl)
 conv => whnf
 refine zao (zaG [4] rfl rfl (zan (rs := []) (Rs := []) (zaa (rs := []) (Rs := []) rfl rfl rfl (by kernel_rfl) rfl fun h X w H => zgx (lab := zkT) (ts := [nb]) (q := (some ⟨h.b 4, 0, none⟩, 1)) rfl (by decide) hk32 hkb (znx (by omega)) H.xk (zbI (ql := [h.r 3]) rfl (by simp) (H.fact 0 rfl) fun t x hx => by
  match t with
  | 0 => obtain rfl := Option.some.inj hx; exact zee (H.fact 1 rfl)
  | t + 1 => simp at hx) (H.fact 3 rfl)) rfl rfl)) ?_
 conv => whnf
 refine zag ?_
 rw [hnb]
 rfl
theorem zyx {z : Int} (hz : z < 0 ∨ z > 1048576) (hX : ∀ k ∈ X, k < w.heap.size) : Ct Tryz.prog 15 [.agg (ca [.key kk]), .int .i64 z] X w (.tup [zzv [] 0 zzw, .s (.p (.v (.int .i64 1)))]) [] [] := by
 refine vFn (k0 := 0) (rs := [.cell 4 46, .tmp 5]) (svs := [.a (.agg [.key kk]), zam .i64 z]) (R0 := []) (hnQ []) Tryz.ntmps15 Tryz.func15 rfl rfl rfl rfl rfl zah (by kernel_rfl) hX (fun r hr => by cases hr) ?_
 conv => whnf
 refine vIf (fun h => ?_) fun h => ?_
 ·conv => whnf
  exact zag rfl
 ·have h1 : ¬ z < 0 := of_decide_eq_false h
  conv => whnf
  refine vT (decide_eq_true (by omega)) ?_
  conv => whnf
  exact zag rfl
def epS (n : Nat) (a b c d e : List Nat) : SA := .agg [.one (.p (.v (.int .u64 ((n : Nat) : Int)))), .key a, .key b, .key c, .key d, .key e]
def epC (n : Nat) (a b c d e : List Nat) : List Chunk := [.one (.int .u64 ((n : Nat) : Int)), .key a, .key b, .key c, .key d, .key e]
theorem ziH {n : Nat} {a b c d e : List Nat} (hX : ∀ k ∈ X, k < w.heap.size) : Ct Tryz.prog 58 [.agg (ca (epC n a b c d e))] X w (zam .i64 (if n ≤ 1099511627776 then 0 else 1)) [] [] := by
 refine vFn (k0 := 0) (rs := [.tmp 2]) (svs := [.a (epS n a b c d e)]) (R0 := []) (hnQ []) Tryz.ntmps58 Tryz.func58 rfl rfl rfl rfl rfl zah (by kernel_rfl) hX (fun r hr => by cases hr) ?_
 conv => whnf
 refine vIf (fun h => ?_) fun h => ?_
 ·have h1 : (n : Int) > 1099511627776 := of_decide_eq_true h
  conv => whnf
  rw [if_neg (by omega)]
  exact zag rfl
 ·have h1 : ¬ (n : Int) > 1099511627776 := of_decide_eq_false h
  conv => whnf
  rw [if_pos (by omega)]
  exact zag rfl
def erF (b : Nat) (w : World) : Prop := hdF [.one (.int .i64 0)] 38 b w
def erR : List SF := [.b 0 (hdF [.one (.int .i64 0)] 38), .blk 0 [.one (.p (.v (.int .i64 0)))]]
theorem ziI {b : Nat} {s : ByteArray} {lab : List Nat} {ts : List (List Nat)} (hs : s.data.toList.map UInt8.toNat = lab) (hlab : lab.length ≤ 100) (hk32 : kk.length = 32) (hkb : ∀ x ∈ kk, x < 256) (hts : zjx ts) (hX : ∀ k ∈ X, k < w.heap.size) (hL : St (SlQ zat ts q) w X) (hG : St (zbm gt 2) w X) (hr : St (erF b) w X) : Ct Tryz.prog 59 [.agg (ca [.key kk]), .string s, .slice q.1 ts.length q.2, .pointer (some ⟨b, 0, none⟩)] X w (.a (.agg [.key (zfb gt kk lab ts)])) [] [] := by
 refine vFn (k0 := 2) (rs := [.cell 7 23]) (svs := [.a (.agg [.key kk]), zfM (.string s), .a (.s (.p (.hd 1 ts.length))), atS 0 0]) (R0 := erR ++ [.sl 1 ts.length (SlF zat ts), .c (zbm gt 2)]) (hnB [b] [(none, 0), q]) Tryz.ntmps59 Tryz.func59 rfl rfl rfl rfl rfl zah (by kernel_rfl) hX (fun r h => by
  rcases List.mem_cons.1 h with rfl | h
  ·exact hr
  rcases List.mem_cons.1 h with rfl | h
  ·exact hr.imp fun w' hw => zy8 hw
  rcases List.mem_cons.1 h with rfl | h
  ·exact hL
  ·rcases List.mem_singleton.1 h with rfl; exact hG) ?_
 conv => whnf
 refine .inl ?_
 conv => whnf
 refine zac rfl rfl rfl (by kernel_rfl) (fun h X w H => zgx hs hlab hk32 hkb hts H.xk (H.fact 2 rfl) (H.fact 3 rfl)) rfl rfl rfl ?_
 conv => whnf
 refine zao (ztC 0 rfl rfl rfl rfl rfl (by kernel_rfl)) ?_
 conv => whnf
 exact zag rfl
def znz : List Nat := [101, 112, 111, 99, 104]
def zvj : List Nat := [105, 110, 105, 116]
def zzx : List Nat := [97, 112, 112]
def zgy : List Nat := [99, 111, 110, 102, 105, 114, 109]
def ziJ : List Nat := [109, 101, 109, 98, 101, 114]
def zjz (gt : Nat → Nat) (j : List Nat) (n : Nat) (tree hash : List Nat) : List Nat := zfb gt j znz [beL 8 n, tree, hash]
def zqR (gt : Nat → Nat) (k : List Nat) (n : Nat) (hash : List Nat) : SA := epS n (zfb gt k zvj []) (zfb gt k zzx []) (zfb gt k zgy []) (zfb gt k ziJ []) hash
theorem zyy {n : Nat} {tree hash : List Nat} (hn : n ≤ 1099511627776) (hk32 : kk.length = 32) (hkb : ∀ x ∈ kk, x < 256) (ht32 : tree.length = 32) (htb : ∀ x ∈ tree, x < 256) (hh32 : hash.length = 32) (hhb : ∀ x ∈ hash, x < 256) (hX : ∀ k ∈ X, k < w.heap.size) (hG : St (zbm gt 2) w X) : Ct Tryz.prog 33 [.agg (ca [.key kk]), .int .u64 n, .agg (ca [.key tree]), .agg (ca [.key hash])] X w (.tup [zqR gt (zjz gt kk n tree hash) n hash, .s (.p (.v (.int .i64 0)))]) [] [] := by
 refine vFn (k0 := 0) (rs := [.cell 8 34, .tmp 9]) (svs := [.a (.agg [.key kk]), zam .u64 n, .a (.agg [.key tree]), .a (.agg [.key hash])]) (R0 := [.c (zbm gt 2)]) (hnQ []) Tryz.ntmps33 Tryz.func33 rfl rfl rfl rfl rfl zah (by kernel_rfl) hX (fun r hr => by rcases List.mem_singleton.1 hr with rfl; exact hG) ?_
 conv => whnf
 refine zac (sv := zam .i64 0) (rs := []) (Rs := []) rfl rfl rfl (by kernel_rfl) (fun h X w H => by
  have := ziH (n := n) (a := []) (b := []) (c := []) (d := []) (e := hash) H.xk
  rw [if_pos hn] at this
  exact this) rfl rfl rfl ?_
 conv => whnf
 obtain ⟨nb, hnb⟩ : ∃ nb, nb = beL 8 n := ⟨_, rfl⟩
 have hnl : nb.length = 8 := by rw [hnb]; simp [beL, beK]
 refine zaI (zaG [5] rfl rfl (zan (sv := .tup [.s (.p (.hd 6 nb.length)), .s (.p (.v (.int .i64 0)))]) (rs := [.gone]) (Rs := [.sl 6 nb.length (TxG nb)]) (zaa (sv := .tup [.s (.p (.hd 0 nb.length)), .s (.p (.v (.int .i64 0)))]) (rs := [.gone]) (Rs := [.sl 0 nb.length (TxG nb)]) rfl rfl rfl (by kernel_rfl) rfl fun h X w H => ?_) rfl rfl)) ?_
 ·rw [hnb]
  exact zvi (W := 8) (n := n) (b := h.b 5) (by decide) (by decide) (by omega) (by omega) H.xk (H.fact 0 rfl)
 conv => whnf
 obtain ⟨k, hkk⟩ : ∃ k, k = zfb gt kk znz [nb, tree, hash] := ⟨_, rfl⟩
 have hkl : k.length = 32 := by rw [hkk]; exact zcv _ _ _ _
 have hkb2 : ∀ x ∈ k, x < 256 := by rw [hkk]; exact zbs _ _ _ _
 refine zas 8 [] (by kernel_rfl) ?_
 conv => whnf
 refine zaq (zdX (cs0 := [.one (.int .i64 0)]) 7 rfl (fun _ => rfl) (zgh [8, 2, 1] rfl (zcE (sv := .a (.agg [.key k])) (rs := []) (Rs := []) (fs := fun _ => []) (cs := fun h => [.pointer (some ⟨h.b 7, 0, none⟩)]) rfl rfl rfl (by kernel_rfl) rfl (fun h => rfl) fun h X w H => ?_))) ?_
 ·rw [hkk]
  refine ziI (lab := znz) (ts := [nb, tree, hash]) (q := (some ⟨h.b 8, 0, none⟩, 3)) rfl (by decide) hk32 hkb ⟨by show 3 ≤ 100; decide, fun x hx => ?_⟩ H.xk (zbI (ql := [h.r 6, (some ⟨h.b 1, 0, none⟩, 32), (some ⟨h.b 2, 0, none⟩, 32)]) rfl (by simp) ?_ fun t x hx => ?_) (H.fact 7 rfl) (H.fact 3 rfl)
  ·rcases List.mem_cons.1 hx with rfl | hx
   ·omega
   rcases List.mem_cons.1 hx with rfl | hx
   ·omega
   ·rcases List.mem_singleton.1 hx with rfl; omega
  ·have := H.fact 2 rfl
   have e : zaD h [.one (.p (.hd 6 nb.length)), .one (.p (.sl 1 0 32 32)), .one (.p (.sl 2 0 32 32))] = zbv [nb, tree, hash] [h.r 6, (some ⟨h.b 1, 0, none⟩, 32), (some ⟨h.b 2, 0, none⟩, 32)] := by
    simp only [zbv, ht32, hh32]
    rfl
   rw [← e]
   exact this
  ·match t with
   | 0 => obtain rfl := Option.some.inj hx; exact zee (H.fact 5 rfl)
   | 1 => obtain rfl := Option.some.inj hx; exact zeb ht32 htb (H.fact 0 rfl)
   | 2 => obtain rfl := Option.some.inj hx; exact zeb hh32 hhb (H.fact 1 rfl)
   | t + 3 => simp at hx
 conv => whnf
 refine zew (zdX (cs0 := [.one (.int .i64 0)]) 7 rfl (fun _ => rfl) (zcE (sv := .a (.agg [.key (zfb gt k zvj [])])) (rs := []) (Rs := []) (fs := fun _ => []) (cs := fun h => [.pointer (some ⟨h.b 7, 0, none⟩)]) rfl rfl rfl (by kernel_rfl) rfl (fun h => rfl) fun h X w H => ziI (lab := zvj) (ts := []) (q := (none, 0)) rfl (by decide) hkl hkb2 zbi H.xk za7 (H.fact 4 rfl) (H.fact 0 rfl))) rfl rfl ?_
 conv => whnf
 refine zew (zdX (cs0 := [.one (.int .i64 0)]) 7 rfl (fun _ => rfl) (zcE (sv := .a (.agg [.key (zfb gt k zzx [])])) (rs := []) (Rs := []) (fs := fun _ => []) (cs := fun h => [.pointer (some ⟨h.b 7, 0, none⟩)]) rfl rfl rfl (by kernel_rfl) rfl (fun h => rfl) fun h X w H => ziI (lab := zzx) (ts := []) (q := (none, 0)) rfl (by decide) hkl hkb2 zbi H.xk za7 (H.fact 4 rfl) (H.fact 0 rfl))) rfl rfl ?_
 conv => whnf
 refine zew (zdX (cs0 := [.one (.int .i64 0)]) 7 rfl (fun _ => rfl) (zcE (sv := .a (.agg [.key (zfb gt k zgy [])])) (rs := []) (Rs := []) (fs := fun _ => []) (cs := fun h => [.pointer (some ⟨h.b 7, 0, none⟩)]) rfl rfl rfl (by kernel_rfl) rfl (fun h => rfl) fun h X w H => ziI (lab := zgy) (ts := []) (q := (none, 0)) rfl (by decide) hkl hkb2 zbi H.xk za7 (H.fact 4 rfl) (H.fact 0 rfl))) rfl rfl ?_
 conv => whnf
 refine zew (zdX (cs0 := [.one (.int .i64 0)]) 7 rfl (fun _ => rfl) (zcE (sv := .a (.agg [.key (zfb gt k ziJ [])])) (rs := []) (Rs := []) (fs := fun _ => []) (cs := fun h => [.pointer (some ⟨h.b 7, 0, none⟩)]) rfl rfl rfl (by kernel_rfl) rfl (fun h => rfl) fun h X w H => ziI (lab := ziJ) (ts := []) (q := (none, 0)) rfl (by decide) hkl hkb2 zbi H.xk za7 (H.fact 4 rfl) (H.fact 0 rfl))) rfl rfl ?_
 conv => whnf
 refine zag ?_
 rw [zjz, ← hnb, ← hkk]
 rfl
end
end
section
open Go.RowKit
def zB7 : List Nat := [110, 111, 100, 101]
def zgz (gt : Nat → Nat) (s : List Nat) : List Nat := zkS (zvh gt (zfb gt s zB7 []))
def zbZ : Ty (Nat × List Nat) where
 μ := Unit
 dft := ()
 sz := 33
 pos := by decide
 ch x _ := [.one (.int .u64 ((x.1 : Nat) : Int)), .key x.2]
 nest _ _ _ := True
 len _ _ := rfl
 one _ _ := ⟨rfl, trivial⟩
instance : Dec zbZ := ⟨fun _ => (), fun _ => [], fun _ => rfl⟩
structure Rat where
 chain : List Nat
 gen : Nat
 left : List (Nat × List Nat)
def zdL : Ty Rat where
 μ := Qd
 dft := (none, 0)
 sz := 34
 pos := by decide
 ch r q := [.key r.chain, .one (.int .u64 ((r.gen : Nat) : Int)), .one (.slice q.1 r.left.length q.2)]
 nest r q := SlQ zbZ r.left q
 len _ _ := rfl
 one _ _ := ⟨rfl, rfl, trivial⟩
instance : Dec zdL := ⟨fun l => qs l 0, fun m => [m], fun _ => rfl⟩
def zcQ (gt : Nat → Nat) (app : List Nat) (id : Int) : Rat := ⟨ziG gt app id.toNat, 0, []⟩
def ziK (id : Int) : Prop := 0 ≤ id ∧ id ≤ 1048576
section
variable {X : List Nat} {w : World} {kk : List Nat} {gt : Nat → Nat} {q : Qd}
theorem zfc {s : ByteArray} {lab : List Nat} (hs : s.data.toList.map UInt8.toNat = lab) (hlab : lab.length ≤ 100) (hk32 : kk.length = 32) (hkb : ∀ x ∈ kk, x < 256) (hX : ∀ k ∈ X, k < w.heap.size) (hG : St (zbm gt 2) w X) : Ct Tryz.prog 31 [.agg (ca [.key kk]), .string s] X w (.a (.agg [.key (zfb gt kk lab [])])) [] [] := by
 refine vFn (k0 := 0) (rs := [.cell 4 23]) (svs := [.a (.agg [.key kk]), zfM (.string s)]) (R0 := [.c (zbm gt 2)]) (hnQ []) Tryz.ntmps31 Tryz.func31 rfl rfl rfl rfl rfl zah (by kernel_rfl) hX (fun r hr => by rcases List.mem_singleton.1 hr with rfl; exact hG) ?_
 conv => whnf
 refine zac rfl rfl rfl (by kernel_rfl) (fun h X w H => zgx (ts := []) (q := (none, 0)) hs hlab hk32 hkb zbi H.xk za7 (H.fact 0 rfl)) rfl rfl rfl ?_
 conv => whnf
 exact zag rfl
theorem zqS (hk32 : kk.length = 32) (hkb : ∀ x ∈ kk, x < 256) (hX : ∀ k ∈ X, k < w.heap.size) (hG : St (zbm gt 2) w X) : Ct Tryz.prog 16 [.agg (ca [.key kk])] X w (.a (.agg [.key (zgz gt kk)])) [] [] := by
 refine vFn (k0 := 0) (rs := [.cell 2 23]) (svs := [.a (.agg [.key kk])]) (R0 := [.c (zbm gt 2)]) (hnQ []) Tryz.ntmps16 Tryz.func16 rfl rfl rfl rfl rfl zah (by kernel_rfl) hX (fun r hr => by rcases List.mem_singleton.1 hr with rfl; exact hG) ?_
 conv => whnf
 refine zac rfl rfl rfl (by kernel_rfl) (fun h X w H => zfc (lab := zB7) rfl (by decide) hk32 hkb H.xk (H.fact 0 rfl)) rfl rfl rfl ?_
 conv => whnf
 refine zac rfl rfl rfl (by kernel_rfl) (fun h X w H => zB6 (zcv _ _ _ _) (zbs _ _ _ _) H.xk (H.fact 0 rfl)) rfl rfl rfl ?_
 conv => whnf
 exact zag rfl
def zcw (gt : Nat → Nat) (app : List Nat) (ids : List Int) : List Rat := ids.map (zcQ gt app)
theorem zgA {gt : Nat → Nat} {app : List Nat} {ids : List Int} {i : Nat} {id : Int} (h : ids[i]? = some id) : zcw gt app (ids.take (i + 1)) = zcw gt app (ids.take i) ++ [zcQ gt app id] := by
 unfold zcw
 rw [List.take_add_one, h, List.map_append]
 rfl
theorem zjA {ids : List Int} (hall : ∀ id ∈ ids, ziK id) (hil : ids.length ≤ 1000000) (hk32 : kk.length = 32) (hkb : ∀ x ∈ kk, x < 256) (hX : ∀ k ∈ X, k < w.heap.size) (hq : St (SlQ zaF ids q) w X) (hG : St (zbm gt 2) w X) : Ct Tryz.prog 11 [.agg (ca [.key kk]), .slice q.1 ids.length q.2] X w (.tup [.s (.p (.hd 0 ids.length)), .s (.p (.v (.int .i64 0)))]) [zba zdL (zcw gt kk ids) 46] [.q 0 (zbS zdL (zcw gt kk ids))] := by
 refine vFn (k0 := 1) (rs := [.tmp 4, .tmp 5]) (svs := [.a (.agg [.key kk]), .a (.s (.p (.hd 0 ids.length)))]) (R0 := [.sl 0 ids.length (SlF zaF ids), .c (zbm gt 2)]) (hnQ [q]) Tryz.ntmps11 Tryz.func11 rfl rfl rfl rfl rfl zah (by kernel_rfl) hX (fun r hr => by
  rcases List.mem_cons.1 hr with rfl | hr
  ·exact hq
  ·rcases List.mem_singleton.1 hr with rfl; exact hG) ?_
 conv => whnf
 refine ⟨Nat, fun k l m R i => ⟨3, (12, zam .i64 i) :: (4, .a (.s (.p (.hd 2 i)))) :: zaC [2, 10, 11] l, (2, zba zdL (zcw gt kk (ids.take i)) 46) :: m, .q 2 (zbS zdL (zcw gt kk (ids.take i))) :: R⟩, fun i => i ≤ ids.length, fun i => ids.length - i, ⟨0, [], [2, 0, 1], Nat.zero_le _, zaE (hR := ⟨.inr fun _ _ _ _ => zdw, .inl rfl, .inl rfl, trivial⟩)⟩, fun i hi => ?_⟩
 conv => whnf
 refine vIf (fun hc => ?_) fun hc => ?_
 ·have hi2 : i < ids.length := by
   have : (i : Int) < ((ids.length : Nat) : Int) := of_decide_eq_true hc
   omega
  obtain ⟨id, hid⟩ : ∃ id, ids[i]? = some id := ⟨_, jP hi2⟩
  obtain ⟨h0, h1⟩ := hall id (List.mem_of_getElem? hid)
  have hidn : id = ((id.toNat : Nat) : Int) := by omega
  have hrl : (zcw gt kk (ids.take i)).length = i := by unfold zcw; rw [List.length_map, List.length_take]; omega
  conv => whnf
  refine ⟨i, ⟨rfl, hi2, hi2⟩, ?_⟩
  conv => whnf
  refine za8 (zaR (T := zaF) (sv := zam .i64 id) 1 hid (fun _ => rfl) rfl rfl rfl (by kernel_rfl) (fun _ => .inr ⟨rfl, rfl, rfl⟩)) rfl rfl ?_
  conv => whnf
  refine zac (sv := .tup [zzv (ziG gt kk id.toNat) 0 zzw, .s (.p (.v (.int .i64 0)))]) (rs := []) (Rs := []) rfl rfl rfl (by kernel_rfl) (fun h X w H => by
   have := zny (gt := gt) (n := id.toNat) (by omega) hk32 hkb H.xk (H.fact 2 rfl)
   rw [← hidn] at this
   exact this) rfl rfl rfl ?_
  conv => whnf
  refine zaI (zfz (T := zdL) (e := 46) (x := zcQ gt kk id) (μs := fun _ => [(none, 0)]) (by_ := 64) rfl rfl rfl hrl.symm rfl rfl rfl (fun _ => rfl) ⟨by kernel_rfl, by kernel_rfl⟩ (by omega) (by omega) rfl rfl (.head _) (fun _ _ _ => rfl) fun h w Y _ => za7) ?_
  rw [← zgA hid]
  conv => whnf
  refine zbq (by omega) (by omega) ?_
  conv => whnf
  exact ⟨i + 1, [(0, 0), (1, 1), (2, 5)], [0, 2, 3], ⟨hi2, Nat.sub_lt_sub_left hi2 (Nat.lt_succ_self i)⟩, zaE⟩
 have hi5 : i = ids.length := by
   have : ¬ (i : Int) < ((ids.length : Nat) : Int) := of_decide_eq_false hc
   omega
 subst hi5
 rw [List.take_length]
 conv => whnf
 exact zaK [(0, 2)] [0] (.inl rfl) ⟨.inl rfl, trivial⟩ rfl ⟨.inl rfl, trivial⟩
theorem zvk {ids : List Int} (hbad : ∃ id ∈ ids, ¬ ziK id) (hil : ids.length ≤ 1000000) (hk32 : kk.length = 32) (hkb : ∀ x ∈ kk, x < 256) (hX : ∀ k ∈ X, k < w.heap.size) (hq : St (SlQ zaF ids q) w X) (hG : St (zbm gt 2) w X) : Ct Tryz.prog 11 [.agg (ca [.key kk]), .slice q.1 ids.length q.2] X w (.tup [.s (.p (.v (.slice none 0 0))), .s (.p (.v (.int .i64 1)))]) [] [] := by
 refine vFn (k0 := 1) (rs := [.tmp 4, .tmp 5]) (svs := [.a (.agg [.key kk]), .a (.s (.p (.hd 0 ids.length)))]) (R0 := [.sl 0 ids.length (SlF zaF ids), .c (zbm gt 2)]) (hnQ [q]) Tryz.ntmps11 Tryz.func11 rfl rfl rfl rfl rfl zah (by kernel_rfl) hX (fun r hr => by
  rcases List.mem_cons.1 hr with rfl | hr
  ·exact hq
  ·rcases List.mem_singleton.1 hr with rfl; exact hG) ?_
 conv => whnf
 refine ⟨Nat, fun k l m R i => ⟨3, (12, zam .i64 i) :: (4, .a (.s (.p (.hd 2 i)))) :: zaC [2, 10, 11] l, (2, zba zdL (zcw gt kk (ids.take i)) 46) :: m, .q 2 (zbS zdL (zcw gt kk (ids.take i))) :: R⟩, fun i => i ≤ ids.length ∧ ∀ id ∈ ids.take i, ziK id, fun i => ids.length - i, ⟨0, [], [2, 0, 1], ⟨Nat.zero_le _, by simp⟩, zaE (hR := ⟨.inr fun _ _ _ _ => zdw, .inl rfl, .inl rfl, trivial⟩)⟩, fun i hg => ?_⟩
 obtain ⟨hi, hpre⟩ : i ≤ ids.length ∧ ∀ id ∈ ids.take i, ziK id := hg
 conv => whnf
 refine vIf (fun hc => ?_) fun hc => ?_
 ·have hi2 : i < ids.length := by
   have : (i : Int) < ((ids.length : Nat) : Int) := of_decide_eq_true hc
   omega
  obtain ⟨id, hid⟩ : ∃ id, ids[i]? = some id := ⟨_, jP hi2⟩
  by_cases hok : ziK id
  case neg =>
   conv => whnf
   refine ⟨i, ⟨rfl, hi2, hi2⟩, ?_⟩
   conv => whnf
   refine za8 (zaR (T := zaF) (sv := zam .i64 id) 1 hid (fun _ => rfl) rfl rfl rfl (by kernel_rfl) (fun _ => .inr ⟨rfl, rfl, rfl⟩)) rfl rfl ?_
   conv => whnf
   refine zac rfl rfl rfl (by kernel_rfl) (fun h X w H => zyx (by unfold ziK at hok; omega) H.xk) rfl rfl rfl ?_
   conv => whnf
   exact zag rfl
  obtain ⟨h0, h1⟩ := hok
  have hidn : id = ((id.toNat : Nat) : Int) := by omega
  have hrl : (zcw gt kk (ids.take i)).length = i := by unfold zcw; rw [List.length_map, List.length_take]; omega
  conv => whnf
  refine ⟨i, ⟨rfl, hi2, hi2⟩, ?_⟩
  conv => whnf
  refine za8 (zaR (T := zaF) (sv := zam .i64 id) 1 hid (fun _ => rfl) rfl rfl rfl (by kernel_rfl) (fun _ => .inr ⟨rfl, rfl, rfl⟩)) rfl rfl ?_
  conv => whnf
  refine zac (sv := .tup [zzv (ziG gt kk id.toNat) 0 zzw, .s (.p (.v (.int .i64 0)))]) (rs := []) (Rs := []) rfl rfl rfl (by kernel_rfl) (fun h X w H => by
   have := zny (gt := gt) (n := id.toNat) (by omega) hk32 hkb H.xk (H.fact 2 rfl)
   rw [← hidn] at this
   exact this) rfl rfl rfl ?_
  conv => whnf
  refine zaI (zfz (T := zdL) (e := 46) (x := zcQ gt kk id) (μs := fun _ => [(none, 0)]) (by_ := 64) rfl rfl rfl hrl.symm rfl rfl rfl (fun _ => rfl) ⟨by kernel_rfl, by kernel_rfl⟩ (by omega) (by omega) rfl rfl (.head _) (fun _ _ _ => rfl) fun h w Y _ => za7) ?_
  rw [← zgA hid]
  conv => whnf
  refine zbq (by omega) (by omega) ?_
  conv => whnf
  refine ⟨i + 1, [(0, 0), (1, 1), (2, 5)], [0, 2, 3], ⟨⟨hi2, fun x hx => ?_⟩, Nat.sub_lt_sub_left hi2 (Nat.lt_succ_self i)⟩, zaE⟩
  rw [List.take_add_one, hid] at hx
  rcases List.mem_append.1 hx with hx | hx
  ·exact hpre x hx
  ·rcases List.mem_singleton.1 hx with rfl
   exact ⟨h0, h1⟩
 have hi5 : i = ids.length := by
   have : ¬ (i : Int) < ((ids.length : Nat) : Int) := of_decide_eq_false hc
   omega
 subst hi5
 rw [List.take_length] at hpre
 obtain ⟨id, h1, h2⟩ := hbad
 exact absurd (hpre id h1) h2
end
end
section
open Go.RowKit
def zfK : List Nat := [108, 101, 97, 102]
def zaY (kd id : Int) (p : List Nat) : Tre := ⟨kd, [id], [], [p]⟩
def zcC : Nd := ⟨0, 0, false, 0, 0 + 1, [], -1⟩
theorem ziL (kd id : Int) (p : List Nat) : (zaY kd id p).fits :=
 ⟨fun l h => (by cases h), (by show 0 ≤ 1000; decide), fun _ _ => ⟨0, rfl, by decide, by show 0 ≤ 1000000; decide⟩⟩
theorem zqT {kd id : Int} {p : List Nat} (hm : zdo kd [id] [] = true) (hp : za1 [] ≠ za1 p) : (zaY kd id p).nodes = ([zcC], 0) := by
 have hall : (zaY kd id p).all = ([zcC], 0) := by
  unfold Tre.all zr6 zaY
  rw [if_pos hm]
  rfl
 unfold Tre.nodes
 have : (zaY kd id p).ok = true := by
  unfold Tre.ok
  rw [hall]
  simp [zaY, hp]
 rw [if_pos this, hall]
theorem zB8 {kd id : Int} {p : List Nat} (hm : zdo kd [id] [] = false) : (zaY kd id p).nodes = ([], 1) := by
 have hall : (zaY kd id p).all = ([], 1) := by
  unfold Tre.all zr6 zaY
  rw [hm]
  rfl
 unfold Tre.nodes
 have : (zaY kd id p).ok = false := by
  unfold Tre.ok
  rw [hall]
  rfl
 rw [this, if_neg (by simp)]
def zcY (gt : Nat → Nat) (id : Int) (p : List Nat) : List Nat := zk0 gt [zcz [zfK, beL 4 id.toNat, p]]
theorem zEm (a b c : List Nat) : (zcz [a, b, c]).length = 6 + a.length + b.length + c.length := by
 show ((beL 2 a.length ++ a) ++ ((beL 2 b.length ++ b) ++ ((beL 2 c.length ++ c) ++ []))).length = _
 simp only [jQ, zdD, List.length_nil]
 omega
section
variable {X : List Nat} {w : World} {gt : Nat → Nat}
theorem zvm {kd id : Int} {p : List Nat} (hm : zdo kd [id] [] = true) (hp : za1 [] ≠ za1 p) (hid : ziK id) (h32 : p.length = 32) (hpb : ∀ x ∈ p, x < 256) (hX : ∀ k ∈ X, k < w.heap.size) (q1 q2 q3 : Qd) (hq1 : St (SlQ zaF [id] q1) w X) (hq2 : St (SlQ (zcM zaF) [] q2) w X) (hq3 : St (SlQ zb5 [p] q3) w X) (hG : St (zbm gt 2) w X) :
  Ct Tryz.prog 57 [(zaY kd id p).val q1 q2 q3] X w (.tup [.s (.p (.hd 0 1)), .s (.p (.v (.int .i64 0)))]) [zba zb5 [zcY gt id p] 23] [] := by
 obtain ⟨n, rfl⟩ : ∃ n : Nat, id = n := ⟨id.toNat, by unfold ziK at hid; omega⟩
 have hn : n ≤ 1048576 := by unfold ziK at hid; omega
 refine vFn (k0 := 3) (rs := [.tmp 2, .tmp 3]) (svs := [.a (.agg [zdH kd, .one (.p (.hd 0 1)), .one (.p (.hd 1 0)), .one (.p (.hd 2 1))])]) (R0 := [.sl 0 1 (SlF zaF [(n : Int)]), .sl 1 0 (SlF (zcM zaF) []), .sl 2 1 (SlF zb5 [p]), .c (zbm gt 2)]) (hnQ [q1, q2, q3]) Tryz.ntmps57 Tryz.func57 rfl rfl rfl rfl rfl zah (by kernel_rfl) hX (fun r hr => by
  rcases List.mem_cons.1 hr with rfl | hr
  ·exact hq1
  rcases List.mem_cons.1 hr with rfl | hr
  ·exact hq2
  rcases List.mem_cons.1 hr with rfl | hr
  ·exact hq3
  ·rcases List.mem_singleton.1 hr with rfl; exact hG) ?_
 conv => whnf
 refine zac (sv := .tup [.s (.p (.hd 0 1)), .s (.p (.v (.int .i64 0)))]) (rs := [.gone]) (Rs := [.sl 0 1 (SlF zbd [zcC])]) rfl rfl rfl (by kernel_rfl) (fun h X w H => by
  have := zib H.xk (zaY kd n p) (ziL kd n p) (h.r 0) (h.r 1) (h.r 2) (H.fact 0 rfl) (H.fact 1 rfl) (H.fact 2 rfl)
  rw [zqT hm hp] at this
  exact this) rfl rfl rfl ?_
 conv => whnf
 refine zbH (zy0 (T := zb5) (e := 23) (d := []) (c := [.key []]) (by_ := 32) (n := 1) ⟨by kernel_rfl, by kernel_rfl⟩ rfl rfl rfl rfl rfl rfl rfl (by decide) (by decide)) rfl rfl ?_
 conv => whnf
 obtain ⟨s, hs⟩ : ∃ s, s = zcY gt n p := ⟨_, rfl⟩
 rw [← hs]
 refine ⟨Nat, fun k l m R i => ⟨k, (29, zam .i64 i) :: zaC [2, 3, 1, 6, 27, 28] l, (5, zba zb5 [if i = 0 then [] else s] 23) :: m, R⟩, fun i => i ≤ 1, fun i => 1 - i, ⟨0, [], [0, 1, 2, 3, 4], by decide, zaE⟩, fun i hi => ?_⟩
 conv => whnf
 refine vIf (fun hc => ?_) fun hc => ?_
 ·have hi0 : i = 0 := by
   have : (i : Int) < 1 := of_decide_eq_true hc
   omega
  subst hi0
  conv => whnf
  refine ⟨0, ⟨rfl, by decide, by decide⟩, ?_⟩
  conv => whnf
  refine zbH (zdF zkh (T := zbd) (x := zcC) (n := 7) (off := 0) (sub := [zdH 0, zdH 0, .one (.p (.v (.bool false))), zdH 0, zdH 1, .one (.p (.hd 6 0)), zdH (-1)]) (Rs := []) 0 (fun μ => [μ]) 1 rfl rfl rfl rfl (by kernel_rfl) (.inl ⟨rfl, rfl⟩) (fun μ h hh => by
   have e : h.r 6 = μ := hh 0 (by omega)
   show some [Chunk.one (.int .i64 0), .one (.int .i64 0), .one (.bool false), .one (.int .i64 0), .one (.int .i64 (0 + 1)), .one (.slice μ.1 0 μ.2), .one (.int .i64 (-1))] = some _
   rw [← e]
   rfl) fun μ h w Y hh hn r hr => by cases hr) rfl rfl ?_
  conv => whnf
  refine zao (zdW (i := 8) (n := 4) (e := 5) rfl rfl rfl (by kernel_rfl) (by kernel_rfl)) ?_
  conv => whnf
  refine ⟨0, ⟨rfl, by decide, by decide⟩, ?_⟩
  conv => whnf
  refine zbH (zm9 (xs := [p]) (x := p) (j := 0) 4 rfl rfl h32 hpb rfl (by kernel_rfl) rfl) rfl rfl ?_
  conv => whnf
  refine .inl ?_
  conv => whnf
  refine ⟨0, ⟨rfl, by decide, by decide⟩, ?_⟩
  conv => whnf
  refine za8 (zaR (T := zaF) (xs := [(n : Int)]) (j := 0) (sv := zam .i64 n) 3 rfl (fun _ => rfl) rfl rfl rfl (by kernel_rfl) (fun _ => .inr ⟨rfl, rfl, rfl⟩)) rfl rfl ?_
  conv => whnf
  refine zwc (by omega) (by omega) ?_
  conv => whnf
  obtain ⟨nb, hnb⟩ : ∃ nb, nb = beL 4 n := ⟨_, rfl⟩
  have hnl : nb.length = 4 := by rw [hnb]; simp [beL, beK]
  refine zaI (zaG [11] rfl rfl (zan (sv := .tup [.s (.p (.hd 12 nb.length)), .s (.p (.v (.int .i64 0)))]) (rs := [.gone]) (Rs := [.sl 12 nb.length (TxG nb)]) (zaa (sv := .tup [.s (.p (.hd 0 nb.length)), .s (.p (.v (.int .i64 0)))]) (rs := [.gone]) (Rs := [.sl 0 nb.length (TxG nb)]) rfl rfl rfl (by kernel_rfl) rfl fun h X w H => ?_) rfl rfl)) ?_
  ·rw [hnb]
   exact zvi (W := 4) (n := n) (b := h.b 11) (by decide) (by decide) (by omega) (by omega) H.xk (H.fact 0 rfl)
  conv => whnf
  refine zao (zdW (i := 13) (n := 4) (e := 5) rfl rfl rfl (by kernel_rfl) (by kernel_rfl)) ?_
  conv => whnf
  refine ⟨0, ⟨rfl, by decide, by decide⟩, ?_⟩
  conv => whnf
  refine zbH (zm9 (xs := [p]) (x := p) (j := 0) 8 rfl rfl h32 hpb rfl (by kernel_rfl) rfl) rfl rfl ?_
  conv => whnf
  refine ⟨Unit, fun k l m R _ => ⟨k, (81, zam .i64 0) :: zaC [2, 3, 1, 6, 7, 9, 27, 28, 29, 80] l, m, R⟩, fun _ => True, fun _ => 0, ⟨(), [], [0, 1, 2, 3, 4, 5, 6, 7, 8, 9, 10], trivial, zaE⟩, fun _ _ => ?_⟩
  conv => whnf
  obtain ⟨t1, ht1⟩ : ∃ t1, t1 = [] ++ zcz [zfK, nb, p] := ⟨_, rfl⟩
  have ht1e : t1 = zcz [zfK, nb, p] := by rw [ht1, List.nil_append]
  refine zaI (zaG [15] rfl rfl (zan (sv := .tup [.s (.p (.hd 16 t1.length)), .s (.p (.v (.int .i64 0)))]) (rs := [.gone]) (Rs := [.sl 16 t1.length (TxG t1)]) (zaa (sv := .tup [.s (.p (.hd 0 t1.length)), .s (.p (.v (.int .i64 0)))]) (rs := [.gone]) (Rs := [.sl 0 t1.length (TxG t1)]) rfl rfl rfl (by kernel_rfl) rfl fun h X w H => ?_) rfl rfl)) ?_
  ·have h5 := H.fact 0 rfl
   have h3 := H.fact 2 rfl
   have e : zaD h [.one (.p (.sl 13 0 4 4)), .one (.p (.hd 12 nb.length)), .one (.p (.hd 14 32))] = zbv [zfK, nb, p] [(some ⟨h.b 13, 0, none⟩, 4), h.r 12, h.r 14] := by
    simp only [zbv, h32]
    rfl
   have := zoR (m0 := []) (ts := [zfK, nb, p]) (q := (none, 0)) (q2 := (some ⟨h.b 15, 0, none⟩, 3)) (fun x hx => by
    rcases List.mem_cons.1 hx with rfl | hx
    ·decide
    rcases List.mem_cons.1 hx with rfl | hx
    ·omega
    ·rcases List.mem_singleton.1 hx with rfl; omega) (by simp) (by simp) H.xk zh6 (zbI (ql := [(some ⟨h.b 13, 0, none⟩, 4), h.r 12, h.r 14]) rfl (by simp) (by rw [← e]; exact h5) fun t x hx => by
    match t with
    | 0 => obtain rfl := Option.some.inj hx; exact zer h3 rfl (jV _) (by decide) (by decide)
    | 1 => obtain rfl := Option.some.inj hx; exact zee (H.fact 3 rfl)
    | 2 => obtain rfl := Option.some.inj hx; exact (show St (fun w => ((h.r 14).1 = none → 32 = 0) ∧ TxG p (h.r 14) w) _ _ from H.fact 1 rfl).imp fun w hw => hw.2
    | t + 3 => simp at hx)
   rw [← ht1] at this
   exact this
  conv => whnf
  have hs2 : zk0 gt [t1] = s := by rw [hs, ht1e, zcY, Int.toNat_natCast, hnb]
  refine zao (zaG [17] rfl rfl (zan (sv := .a (.agg [.key s])) (rs := []) (Rs := []) (zaa (sv := .a (.agg [.key s])) (rs := []) (Rs := []) rfl rfl rfl (by kernel_rfl) rfl fun h X w H => hs2 ▸ zub (ps := [t1]) (q := (some ⟨h.b 17, 0, none⟩, 1)) H.xk (fun x hx => by
   rcases List.mem_singleton.1 hx with rfl
   rw [ht1e, zEm]
   show 6 + 4 + nb.length + p.length ≤ _
   omega) (by simp) (zbI (ql := [h.r 16]) rfl (by simp) (H.fact 0 rfl) fun t x hx => by
   match t with
   | 0 => obtain rfl := Option.some.inj hx; exact zee (H.fact 1 rfl)
   | t + 1 => simp at hx) (H.fact 13 rfl)) rfl rfl)) ?_
  conv => whnf
  refine ⟨0, ⟨rfl, Nat.zero_lt_one, Nat.zero_lt_one⟩, ?_⟩
  conv => whnf
  refine zao (zmA (T := zb5) (e := 23) s zah rfl rfl rfl rfl rfl rfl rfl (fun _ => trivial) fun _ _ => rfl) ?_
  conv => whnf
  refine zbq (by omega) (by omega) ?_
  conv => whnf
  exact ⟨1, [], [9, 10, 11, 12, 13], ⟨jV _, Nat.zero_lt_one⟩, zaE⟩
 ·obtain rfl : i = 1 := by
   have : ¬ (i : Int) < 1 := of_decide_eq_false hc
   omega
  conv => whnf
  exact zaK [(0, 5)] [] (.inl rfl) ⟨.inl rfl, trivial⟩ rfl trivial
theorem zvn {kd id : Int} {p : List Nat} (hm : zdo kd [id] [] = true) (hp : za1 [] ≠ za1 p) (hid : ziK id) (h32 : p.length = 32) (hpb : ∀ x ∈ p, x < 256) (hX : ∀ k ∈ X, k < w.heap.size) (q1 q2 q3 : Qd) (hq1 : St (SlQ zaF [id] q1) w X) (hq2 : St (SlQ (zcM zaF) [] q2) w X) (hq3 : St (SlQ zb5 [p] q3) w X) (hG : St (zbm gt 2) w X) :
  Ct Tryz.prog 32 [(zaY kd id p).val q1 q2 q3] X w (.tup [.agg [.key (zcY gt id p)], .s (.p (.v (.int .i64 0)))]) [] [] := by
 refine vFn (k0 := 3) (rs := [.cell 2 23, .tmp 3]) (svs := [.a (.agg [zdH kd, .one (.p (.hd 0 1)), .one (.p (.hd 1 0)), .one (.p (.hd 2 1))])]) (R0 := [.sl 0 1 (SlF zaF [id]), .sl 1 0 (SlF (zcM zaF) []), .sl 2 1 (SlF zb5 [p]), .c (zbm gt 2)]) (hnQ [q1, q2, q3]) Tryz.ntmps32 Tryz.func32 rfl rfl rfl rfl rfl zah (by kernel_rfl) hX (fun r hr => by
  rcases List.mem_cons.1 hr with rfl | hr
  ·exact hq1
  rcases List.mem_cons.1 hr with rfl | hr
  ·exact hq2
  rcases List.mem_cons.1 hr with rfl | hr
  ·exact hq3
  ·rcases List.mem_singleton.1 hr with rfl; exact hG) ?_
 conv => whnf
 obtain ⟨s, hs⟩ : ∃ s, s = zcY gt id p := ⟨_, rfl⟩
 rw [← hs]
 refine zac (sv := .tup [.s (.p (.hd 0 1)), .s (.p (.v (.int .i64 0)))]) (rs := [zba zb5 [s] 23]) (Rs := []) rfl rfl rfl (by kernel_rfl) (fun h X w H => hs ▸ zvm hm hp hid h32 hpb H.xk (h.r 0) (h.r 1) (h.r 2) (H.fact 0 rfl) (H.fact 1 rfl) (H.fact 2 rfl) (H.fact 3 rfl)) rfl rfl rfl ?_
 conv => whnf
 refine ⟨0, rfl, ?_⟩
 conv => whnf
 refine ⟨0, ⟨rfl, Nat.zero_lt_one, Nat.zero_lt_one⟩, ?_⟩
 conv => whnf
 refine za8 (zg2 (T := zb5) (n := 32) (off := 0) (sub := [.key s]) (x := s) (sv := .a (.agg [.key s])) (e := 23) rfl rfl (fun _ => rfl) rfl rfl (by kernel_rfl) (fun _ => .inl ⟨rfl, rfl⟩)) rfl rfl ?_
 conv => whnf
 exact zag rfl
theorem zyz {kd id : Int} {p : List Nat} (hm : zdo kd [id] [] = false) (hX : ∀ k ∈ X, k < w.heap.size) (q1 q2 q3 : Qd) (hq1 : St (SlQ zaF [id] q1) w X) (hq2 : St (SlQ (zcM zaF) [] q2) w X) (hq3 : St (SlQ zb5 [p] q3) w X) :
  Ct Tryz.prog 57 [(zaY kd id p).val q1 q2 q3] X w (.tup [.s (.p (.v (.slice none 0 0))), .s (.p (.v (.int .i64 1)))]) [] [] := by
 refine vFn (k0 := 3) (rs := [.tmp 2, .tmp 3]) (svs := [.a (.agg [zdH kd, .one (.p (.hd 0 1)), .one (.p (.hd 1 0)), .one (.p (.hd 2 1))])]) (R0 := [.sl 0 1 (SlF zaF [id]), .sl 1 0 (SlF (zcM zaF) []), .sl 2 1 (SlF zb5 [p])]) (hnQ [q1, q2, q3]) Tryz.ntmps57 Tryz.func57 rfl rfl rfl rfl rfl zah (by kernel_rfl) hX (fun r hr => by
  rcases List.mem_cons.1 hr with rfl | hr
  ·exact hq1
  rcases List.mem_cons.1 hr with rfl | hr
  ·exact hq2
  ·rcases List.mem_singleton.1 hr with rfl; exact hq3) ?_
 conv => whnf
 refine zac (sv := .tup [.s (.p (.hd 0 0)), .s (.p (.v (.int .i64 1)))]) (rs := [.gone]) (Rs := [.sl 0 0 (SlF zbd [])]) rfl rfl rfl (by kernel_rfl) (fun h X w H => by
  have := zib H.xk (zaY kd id p) (ziL kd id p) (h.r 0) (h.r 1) (h.r 2) (H.fact 0 rfl) (H.fact 1 rfl) (H.fact 2 rfl)
  rw [zB8 hm] at this
  exact this) rfl rfl rfl ?_
 conv => whnf
 exact zag rfl
theorem zyA {kd id : Int} {p : List Nat} (hm : zdo kd [id] [] = false) (hX : ∀ k ∈ X, k < w.heap.size) (q1 q2 q3 : Qd) (hq1 : St (SlQ zaF [id] q1) w X) (hq2 : St (SlQ (zcM zaF) [] q2) w X) (hq3 : St (SlQ zb5 [p] q3) w X) :
  Ct Tryz.prog 32 [(zaY kd id p).val q1 q2 q3] X w (.tup [.agg [.key []], .s (.p (.v (.int .i64 1)))]) [] [] := by
 refine vFn (k0 := 3) (rs := [.cell 2 23, .tmp 3]) (svs := [.a (.agg [zdH kd, .one (.p (.hd 0 1)), .one (.p (.hd 1 0)), .one (.p (.hd 2 1))])]) (R0 := [.sl 0 1 (SlF zaF [id]), .sl 1 0 (SlF (zcM zaF) []), .sl 2 1 (SlF zb5 [p])]) (hnQ [q1, q2, q3]) Tryz.ntmps32 Tryz.func32 rfl rfl rfl rfl rfl zah (by kernel_rfl) hX (fun r hr => by
  rcases List.mem_cons.1 hr with rfl | hr
  ·exact hq1
  rcases List.mem_cons.1 hr with rfl | hr
  ·exact hq2
  ·rcases List.mem_singleton.1 hr with rfl; exact hq3) ?_
 conv => whnf
 refine zac (sv := .tup [.s (.p (.v (.slice none 0 0))), .s (.p (.v (.int .i64 1)))]) (rs := []) (Rs := []) rfl rfl rfl (by kernel_rfl) (fun h X w H => zyz hm H.xk (h.r 0) (h.r 1) (h.r 2) (H.fact 0 rfl) (H.fact 1 rfl) (H.fact 2 rfl)) rfl rfl rfl ?_
 conv => whnf
 exact zag rfl
end
end
section
open Go.RowKit
theorem zcZ {α : Type} {T : Ty α} {x : α} {μ : T.μ} {ad : Addr} {w : World} {Y : List Nat} (hat : St (AtC ad (T.ch x μ)) w Y) (hn : St (T.nest x μ) w Y) : St (SlQ T [x] (some ad, 1)) w Y := fun w' hk =>
 ⟨fun e => (by cases e), fun _ => μ, ⟨jV _, (by show 1 ≤ 9223372036854775807; decide), fun e => (by cases e), fun ad' e t y hy => by
  obtain rfl := Option.some.inj e
  match t with
  | 0 => obtain rfl := Option.some.inj hy; rw [Nat.zero_mul, zav]; exact ⟨hat w' hk, hn w' hk⟩
  | t + 1 => simp at hy⟩⟩
theorem zbE {w : World} {Y : List Nat} : St (fun _ => True) w Y := fun _ _ => trivial
def ziM : List Nat := [106, 111, 105, 110, 101, 114]
def znA : List Nat := List.replicate 32 0
def zeP (gt : Nat → Nat) (seed : List Nat) : List Nat := zfb gt seed zfK []
def zCD (gt : Nat → Nat) (n : Nat) (seed : List Nat) : List Nat := zjz gt (zfb gt seed ziM []) 0 (zcY gt n (zgz gt (zeP gt seed))) znA
def zvo (gt : Nat → Nat) (n : Nat) (seed : List Nat) : List Nat := zfb gt (zCD gt n seed) zzx []
structure Epo where
 n : Nat
 init : List Nat
 app : List Nat
 confirm : List Nat
 member : List Nat
 hash : List Nat
structure Mem where
 t : Tre
 id : Int
 leaf : List Nat
 ahead : List Nat
 secrets : List (List Nat)
 e : Epo
 chains : List Rat
abbrev zqU (x : Mem) (i : Nat) : SA := .agg [zdH x.t.kd, .one (.p (.hd i x.t.ids.length)), .one (.p (.hd (i + 1) x.t.ls.length)), .one (.p (.hd (i + 2) x.t.ps.length)), zdH x.id, .key x.leaf, .key x.ahead, .one (.p (.hd (i + 3) x.secrets.length)), .one (.p (.v (.int .u64 ((x.e.n : Nat) : Int)))), .key x.e.init, .key x.e.app, .key x.e.confirm, .key x.e.member, .key x.e.hash, .one (.p (.hd (i + 4) x.chains.length))]
abbrev zqV (x : Mem) (i : Nat) : List SF := [.sl i x.t.ids.length (SlF zaF x.t.ids), .sl (i + 1) x.t.ls.length (SlF (zcM zaF) x.t.ls), .sl (i + 2) x.t.ps.length (SlF zb5 x.t.ps), .sl (i + 3) x.secrets.length (SlF zb5 x.secrets), .sl (i + 4) x.chains.length (SlF zdL x.chains)]
abbrev zrR (kd id : Int) (lf ah : List Nat) (e : Epo) (a b c d g : SP) : SV := .tup [.agg [zdH kd, .one (.p a), .one (.p b), .one (.p c), zdH id, .key lf, .key ah, .one (.p d), .one (.p (.v (.int .u64 ((e.n : Nat) : Int)))), .key e.init, .key e.app, .key e.confirm, .key e.member, .key e.hash, .one (.p g)], .s (.p (.v (.int .i64 0)))]
theorem zdE {kd id : Int} {lf ah : List Nat} {e : Epo} {a b c d g a' b' c' d' g' : SP} {h : Hn} (ha : a'.den h = a.den h) (hb : b'.den h = b.den h) (hc : c'.den h = c.den h) (hd : d'.den h = d.den h) (hg : g'.den h = g.den h) : (zrR kd id lf ah e a' b' c' d' g').den h = (zrR kd id lf ah e a b c d g).den h := by
 simp only [zrR, SV.den, zjN, SA.den, zaD, SC.den, SS.den, ha, hb, hc, hd, hg]
def noE : Epo := ⟨0, [], [], [], [], []⟩
def noM : Mem := ⟨⟨0, [], [], []⟩, 0, [], [], [], noE, []⟩
def zd2 (gt : Nat → Nat) (jn : List Nat) : Epo := ⟨0, zfb gt jn zvj [], zfb gt jn zzx [], zfb gt jn zgy [], zfb gt jn ziJ [], znA⟩
def zoS (gt : Nat → Nat) (kd : Int) (n : Nat) (seed : List Nat) : Mem := ⟨zaY kd n (zgz gt (zeP gt seed)), n, zeP gt seed, [], [], zd2 gt (zCD gt n seed), [zcQ gt (zvo gt n seed) n]⟩
section
variable {X : List Nat} {w : World} {gt : Nat → Nat} {seed : List Nat}
theorem zvp {kd : Int} {n : Nat} (hm : zdo kd [(n : Int)] [] = true) (hp : za1 [] ≠ za1 (zgz gt (zeP gt seed))) (hn : n ≤ 1048576) (hk32 : seed.length = 32) (hkb : ∀ x ∈ seed, x < 256) (hX : ∀ k ∈ X, k < w.heap.size) (hG : St (zbm gt 2) w X) :
  Ct Tryz.prog 9 [.int .i64 kd, .int .i64 n, .agg (ca [.key seed])] X w (.tup [zqU (zoS gt kd n seed) 0, .s (.p (.v (.int .i64 0)))]) [.gone, .gone, .gone, .gone, .gone] (zqV (zoS gt kd n seed) 0) := by
 refine vFn (k0 := 0) (rs := [.cell 6 37, .tmp 7]) (svs := [zam .i64 kd, zam .i64 n, .a (.agg [.key seed])]) (R0 := [.c (zbm gt 2)]) (hnQ []) Tryz.ntmps9 Tryz.func9 rfl rfl rfl rfl rfl zah (by kernel_rfl) hX (fun r hr => by rcases List.mem_singleton.1 hr with rfl; exact hG) ?_
 obtain ⟨lf, hlf⟩ : ∃ lf, lf = zeP gt seed := ⟨_, rfl⟩
 conv => whnf
 refine zac (sv := .a (.agg [.key lf])) (rs := []) (Rs := []) rfl rfl rfl (by kernel_rfl) (fun h X w H => hlf ▸ zfc (lab := zfK) rfl (by decide) hk32 hkb H.xk (H.fact 0 rfl)) rfl rfl rfl ?_
 conv => whnf
 obtain ⟨pt, hpt⟩ : ∃ pt, pt = zgz gt lf := ⟨_, rfl⟩
 have hl32 : lf.length = 32 := by rw [hlf]; exact zcv _ _ _ _
 have hlb : ∀ x ∈ lf, x < 256 := by rw [hlf]; exact zbs _ _ _ _
 refine zac (sv := .a (.agg [.key pt])) (rs := []) (Rs := []) rfl rfl rfl (by kernel_rfl) (fun h X w H => hpt ▸ zqS hl32 hlb H.xk (H.fact 0 rfl)) rfl rfl rfl ?_
 conv => whnf
 obtain ⟨sm, hsm⟩ : ∃ sm, sm = zcY gt n pt := ⟨_, rfl⟩
 have hpt32 : pt.length = 32 := by rw [hpt]; exact znw _
 have hptb : ∀ x ∈ pt, x < 256 := by rw [hpt]; exact zjy _
 have hpp : za1 [] ≠ za1 pt := by rw [hpt, hlf]; exact hp
 refine zao (zaG [3, 4] rfl rfl (zan (sv := .tup [.agg [.key sm], .s (.p (.v (.int .i64 0)))]) (rs := []) (Rs := []) (zaa (sv := .tup [.agg [.key sm], .s (.p (.v (.int .i64 0)))]) (rs := []) (Rs := []) rfl rfl rfl (by kernel_rfl) rfl fun h X w H => ?_) rfl rfl)) ?_
 ·have h3 : St (AtC ⟨h.b 3, 0, none⟩ (zaF.ch (n : Int) ())) w _ := H.fact 1 rfl
  have h4 : St (AtC ⟨h.b 4, 0, none⟩ (zb5.ch pt ())) w _ := H.fact 0 rfl
  have := zvn (gt := gt) hm hpp ⟨by omega, by omega⟩ hpt32 hptb H.xk (some ⟨h.b 3, 0, none⟩, 1) (none, 0) (some ⟨h.b 4, 0, none⟩, 1) (zcZ h3 zbE) za7 (zcZ h4 zbE) (H.fact 2 rfl)
  rw [← hsm] at this
  exact this
 conv => whnf
 obtain ⟨jn, hjn⟩ : ∃ jn, jn = zCD gt n seed := ⟨_, rfl⟩
 have hsm32 : sm.length = 32 := by rw [hsm]; exact zgq _ _
 have hsmb : ∀ x ∈ sm, x < 256 := by rw [hsm]; exact zeE _ _
 refine zas 10 [2] (by kernel_rfl) ?_
 conv => whnf
 obtain ⟨jr, hjr⟩ : ∃ jr, jr = zfb gt seed ziM [] := ⟨_, rfl⟩
 have hjr32 : jr.length = 32 := by rw [hjr]; exact zcv _ _ _ _
 have hjrb : ∀ x ∈ jr, x < 256 := by rw [hjr]; exact zbs _ _ _ _
 refine zaq (zaa (sv := .a (.agg [.key jr])) (rs := []) (Rs := []) rfl rfl rfl (by kernel_rfl) rfl fun h X w H => hjr ▸ zfc (lab := ziM) rfl (by decide) hk32 hkb H.xk (H.fact 2 rfl)) ?_
 conv => whnf
 have hjn2 : jn = zjz gt jr 0 sm znA := by rw [hjn, zCD, hjr, hsm, hpt, hlf]
 refine zaq (zaa (sv := .tup [zqR gt jn 0 znA, .s (.p (.v (.int .i64 0)))]) (rs := []) (Rs := []) rfl rfl rfl (by kernel_rfl) rfl fun h X w H => ?_) ?_
 ·have := zyy (gt := gt) (n := 0) (tree := sm) (hash := znA) (by omega) hjr32 hjrb hsm32 hsmb rfl (by decide) H.xk (H.fact 2 rfl)
  rw [← hjn2] at this
  exact this
 conv => whnf
 obtain ⟨ap, hap⟩ : ∃ ap, ap = zfb gt jn zzx [] := ⟨_, rfl⟩
 have hap32 : ap.length = 32 := by rw [hap]; exact zcv _ _ _ _
 have hapb : ∀ x ∈ ap, x < 256 := by rw [hap]; exact zbs _ _ _ _
 refine zaI (zaG [6] rfl rfl (zan (sv := .tup [.s (.p (.hd 7 1)), .s (.p (.v (.int .i64 0)))]) (rs := [zba zdL [zcQ gt ap n] 46]) (Rs := [.q 7 (zbS zdL [zcQ gt ap n])]) (zaa (sv := .tup [.s (.p (.hd 0 1)), .s (.p (.v (.int .i64 0)))]) (rs := [zba zdL [zcQ gt ap n] 46]) (Rs := [.q 0 (zbS zdL [zcQ gt ap n])]) rfl rfl rfl (by kernel_rfl) rfl fun h X w H => ?_) rfl rfl)) ?_
 ·have h6 : St (AtC ⟨h.b 6, 0, none⟩ (zaF.ch (n : Int) ())) w _ := H.fact 0 rfl
  have := zjA (gt := gt) (ids := [(n : Int)]) (fun x hx => by rcases List.mem_singleton.1 hx with rfl; exact ⟨by omega, by omega⟩) (by show 1 ≤ _; decide) hap32 hapb H.xk (zcZ h6 zbE) (H.fact 3 rfl)
  rw [hap] at this ⊢
  exact this
 conv => whnf
 have em : zoS gt kd n seed = ⟨zaY kd n pt, n, lf, [], [], zd2 gt jn, [zcQ gt ap n]⟩ := by rw [zoS, zvo, ← hlf, ← hpt, ← hjn, ← hap]
 rw [em]
 clear em hlf hpt hjn hap hsm hjr hjn2
 refine zkf 7 rfl (.head _) rfl ?_
 show RetOk X [] w _ 8 (zrR kd n lf [] (zd2 gt jn) (.sl 3 0 1 1) (.v (.slice none 0 0)) (.sl 4 0 1 1) (.v (.slice none 0 0)) (.hd 7 1)) _ _
 refine zeJ (sv' := zrR kd n lf [] (zd2 gt jn) (.hd 8 1) (.v (.slice none 0 0)) (.sl 4 0 1 1) (.v (.slice none 0 0)) (.hd 7 1)) 1 (SlF zaF [(n : Int)]) (fun h => (some ⟨h.b 3, 0, none⟩, 1)) (fun h h' e => by rw [(e 3 rfl).1]) (fun h X w H => zcZ (T := zaF) (x := (n : Int)) (μ := ()) (H.fact 4 rfl) zbE) (fun h e => zdE (by simp only [SP.den, e]) rfl rfl rfl rfl) rfl ?_
 refine zeJ (sv' := zrR kd n lf [] (zd2 gt jn) (.hd 8 1) (.hd 9 0) (.sl 4 0 1 1) (.v (.slice none 0 0)) (.hd 7 1)) 0 (SlF (zcM zaF) []) (fun h => (none, 0)) (fun h h' e => rfl) (fun h X w H => za7) (fun h e => zdE rfl (by simp only [SP.den, e]) rfl rfl rfl) rfl ?_
 refine zeJ (sv' := zrR kd n lf [] (zd2 gt jn) (.hd 8 1) (.hd 9 0) (.hd 10 1) (.v (.slice none 0 0)) (.hd 7 1)) 1 (SlF zb5 [pt]) (fun h => (some ⟨h.b 4, 0, none⟩, 1)) (fun h h' e => by rw [(e 4 rfl).1]) (fun h X w H => zcZ (T := zb5) (x := pt) (μ := ()) (H.fact 5 rfl) zbE) (fun h e => zdE rfl rfl (by simp only [SP.den, e]) rfl rfl) rfl ?_
 refine zeJ (sv' := zrR kd n lf [] (zd2 gt jn) (.hd 8 1) (.hd 9 0) (.hd 10 1) (.hd 11 0) (.hd 7 1)) 0 (SlF zb5 []) (fun h => (none, 0)) (fun h h' e => rfl) (fun h X w H => za7) (fun h e => zdE rfl rfl rfl (by simp only [SP.den, e]) rfl) rfl ?_
 exact zaK [(0, 8), (1, 9), (2, 10), (3, 11), (4, 7)] [3, 2, 1, 0, 4] (.inl rfl) trivial rfl ⟨.inl rfl, .inl rfl, .inl rfl, .inl rfl, .inl rfl, trivial⟩
theorem zEn {kd id : Int} (hm : zdo kd [id] [] = false) (hk32 : seed.length = 32) (hkb : ∀ x ∈ seed, x < 256) (hX : ∀ k ∈ X, k < w.heap.size) (hG : St (zbm gt 2) w X) :
  Ct Tryz.prog 9 [.int .i64 kd, .int .i64 id, .agg (ca [.key seed])] X w (.tup [zqU noM 0, .s (.p (.v (.int .i64 1)))]) [.gone, .gone, .gone, .gone, .gone] (zqV noM 0) := by
 refine vFn (k0 := 0) (rs := [.cell 6 37, .tmp 7]) (svs := [zam .i64 kd, zam .i64 id, .a (.agg [.key seed])]) (R0 := [.c (zbm gt 2)]) (hnQ []) Tryz.ntmps9 Tryz.func9 rfl rfl rfl rfl rfl zah (by kernel_rfl) hX (fun r hr => by rcases List.mem_singleton.1 hr with rfl; exact hG) ?_
 obtain ⟨lf, hlf⟩ : ∃ lf, lf = zeP gt seed := ⟨_, rfl⟩
 conv => whnf
 refine zac (sv := .a (.agg [.key lf])) (rs := []) (Rs := []) rfl rfl rfl (by kernel_rfl) (fun h X w H => hlf ▸ zfc (lab := zfK) rfl (by decide) hk32 hkb H.xk (H.fact 0 rfl)) rfl rfl rfl ?_
 conv => whnf
 obtain ⟨pt, hpt⟩ : ∃ pt, pt = zgz gt lf := ⟨_, rfl⟩
 have hl32 : lf.length = 32 := by rw [hlf]; exact zcv _ _ _ _
 have hlb : ∀ x ∈ lf, x < 256 := by rw [hlf]; exact zbs _ _ _ _
 refine zac (sv := .a (.agg [.key pt])) (rs := []) (Rs := []) rfl rfl rfl (by kernel_rfl) (fun h X w H => hpt ▸ zqS hl32 hlb H.xk (H.fact 0 rfl)) rfl rfl rfl ?_
 conv => whnf
 refine zao (zaG [3, 4] rfl rfl (zan (sv := .tup [.agg [.key []], .s (.p (.v (.int .i64 1)))]) (rs := []) (Rs := []) (zaa (sv := .tup [.agg [.key []], .s (.p (.v (.int .i64 1)))]) (rs := []) (Rs := []) rfl rfl rfl (by kernel_rfl) rfl fun h X w H => ?_) rfl rfl)) ?_
 ·have h3 : St (AtC ⟨h.b 3, 0, none⟩ (zaF.ch id ())) w _ := H.fact 1 rfl
  have h4 : St (AtC ⟨h.b 4, 0, none⟩ (zb5.ch pt ())) w _ := H.fact 0 rfl
  exact zyA hm H.xk (some ⟨h.b 3, 0, none⟩, 1) (none, 0) (some ⟨h.b 4, 0, none⟩, 1) (zcZ h3 zbE) za7 (zcZ h4 zbE)
 conv => whnf
 exact zaK [(0, 9), (1, 10), (2, 11), (3, 12), (4, 13)] [0, 0, 0, 0, 0] (.inr (by simp only [nlV, nlT, nlA, nlC]; exact ⟨⟨rfl, rfl, rfl, rfl, rfl, rfl, rfl, rfl, rfl, rfl, rfl, rfl, rfl, rfl, rfl, trivial⟩, rfl, trivial⟩)) trivial rfl ⟨.inr (zaB rfl), .inr (zaB rfl), .inr (zaB rfl), .inr (zaB rfl), .inr (zaB rfl), trivial⟩
end
end
section
open Go.RowKit
section
variable {X : List Nat} {w : World} {xs : List (Nat × List Nat)} {q : Qd}
theorem zoT (hX : ∀ k ∈ X, k < w.heap.size) (hq : St (SlQ zbZ xs q) w X) : Ct Tryz.prog 106 [.slice q.1 xs.length q.2] X w (.a (.s (.fn (.func 150) [] [.at_ 1 0]))) [.gone, .blk [.one (.p (.hd 0 xs.length))] 44] [.sl 0 xs.length (SlF zbZ xs)] := by
 refine vFn (k0 := 1) (rs := [.tmp 2]) (svs := [.a (.s (.p (.hd 0 xs.length)))]) (R0 := [.sl 0 xs.length (SlF zbZ xs)]) (hnQ [q]) Tryz.ntmps106 Tryz.func106 rfl rfl rfl rfl rfl zah (by kernel_rfl) hX (fun r hr => by rcases List.mem_singleton.1 hr with rfl; exact hq) ?_
 conv => whnf
 exact zaK [(0, 0), (1, 1)] [0] (.inl rfl) ⟨.inl rfl, trivial⟩ rfl ⟨.inl rfl, trivial⟩
def skV (x : Nat × List Nat) : Value := .agg (ca [.one (.int .u64 ((x.1 : Nat) : Int)), .key x.2])
def zEo (xs : List (Nat × List Nat)) (i : Nat) : Array Value := #[.int .i64 ((xs.length : Nat) - 1 - (i : Nat) : Int), match xs[xs.length - 1 - i]? with | some x => skV x | none => undef]
abbrev znB (n : Nat) (yv : Value) (i : Nat) : LE := [(3, zam .i64 (((n : Nat) : Int) - 1 - (i : Nat))), (0, .a (.s (.p (.v yv)))), (1, atS 0 0)]
abbrev zFB (xs : List (Nat × List Nat)) (b : Nat) : List SF := [.blk 0 [.one (.p (.hd 0 xs.length))], .sl 0 xs.length (SlF zbZ xs), .b 0 fun x _ => x = b]
def zEM (b : Nat) (q : Qd) : Hn := ⟨fun _ => b, fun _ => q, fun _ _ => []⟩
def zFT (n b : Nat) (yv : Value) (i : Nat) : List (Nat × Value) := [(3, .int .i64 (((n : Nat) : Int) - 1 - (i : Nat))), (0, yv), (1, .pointer (some ⟨b, 0, none⟩))]
theorem znC : ∀ {l : List (Nat × Value)} {i : Nat} {v : Value}, zfQ l i = some v → (i, v) ∈ l
 | [], i, v, e => by cases e
 | (d, u) :: l, i, v, e => by
  unfold zfQ at e
  cases hb : Nat.beq d i with
  | true => rw [hb] at e; obtain rfl := Option.some.inj e; obtain rfl := Nat.eq_of_beq_eq_true hb; exact List.mem_cons_self ..
  | false => rw [hb] at e; exact List.mem_cons_of_mem _ (znC e)
theorem Env.sel {a : Act} {N : Nat} {l l2 : List (Nat × Value)} (E : Env a N l) (h : ∀ p ∈ l2, zfQ l p.1 = some p.2) : Env a N l2 := E.sub fun i v hv => h _ (znC hv)
theorem zqW {A B : World} (h : Frm [] A B) : Kept A.heap.size A B := ⟨h.os, h.tape, h.output, h.size, fun k hk => h.block k hk (by simp)⟩
theorem zgB {b : Nat} {l0 : LE} {a : Act} {W : World} (E : Env a 19 (zcd (zEM b q) l0)) (hwl : wfE (lt_ 1) l0 = true) (hb : St (AtC ⟨b, 0, none⟩ [.one (.slice q.1 xs.length q.2)]) W []) (hs : St (SlQ zbZ xs q) W []) : VSt 19 [] [] W 1 l0 [] (zFB xs b) (zEM b q) a W := by
 refine ⟨E, ⟨fun _ h => (by cases h), fun _ h => (by cases h), List.nodup_nil, fun _ h => (by cases h), fun r hr => ?_⟩, Frm.refl _ _, fun _ h => (by cases h), hwl, rfl, rfl⟩
 rcases List.mem_cons.1 hr with rfl | hr
 ·exact hb
 rcases List.mem_cons.1 hr with rfl | hr
 ·exact hs
 ·rcases List.mem_singleton.1 hr with rfl
  exact fun _ _ => rfl
theorem zB9 {N k : Nat} {l0 : LE} {h : Hn} {a : Act} {W : World} (E : Env a N (zcd h l0)) (hwl : wfE (lt_ k) l0 = true) : VSt N [] [] W k l0 [] [] h a W :=
 ⟨E, ⟨fun _ h => (by cases h), fun _ h => (by cases h), List.nodup_nil, fun _ h => (by cases h), fun _ h => (by cases h)⟩, Frm.refl _ _, fun _ h => (by cases h), hwl, rfl, rfl⟩
structure BackK (xs : List (Nat × List Nat)) (b : Nat) (yv : Value) (t3 : Int) (l : LE) (R : List SF) : Prop where
 t0 : zbJ l 0 = some (.a (.s (.p (.v yv))))
 t1 : zbJ l 1 = some (atS 0 0)
 t3 : zbJ l 3 = some (zam .i64 t3)
 fb : SF.b 0 (fun x _ => x = b) ∈ R
theorem BackK.env {b k : Nat} {yv : Value} {t3 : Int} {l : LE} {m : MB} {R : List SF} {G : List Nat} {w0 : World} {h : Hn} {a : Act} {W : World} (hk : BackK xs b yv t3 l R) (H : VSt 19 X G w0 k l m R h a W) : Env a 19 [(3, .int .i64 t3), (0, yv), (1, .pointer (some ⟨b, 0, none⟩))] := by
 have hb : h.b 0 = b := (H.sp.facts _ (zaQ.2 ⟨_, hk.fb, rfl⟩)).now
 refine H.env.sel fun p hp => ?_
 rcases List.mem_cons.1 hp with rfl | hp
 ·exact zaZ h _ _ _ hk.t3
 rcases List.mem_cons.1 hp with rfl | hp
 ·exact zaZ h _ _ _ hk.t0
 ·rcases List.mem_singleton.1 hp with rfl
  rw [zaZ h _ _ _ hk.t1]
  show some (Value.pointer (some ⟨h.b 0, 0, none⟩)) = _
  rw [hb]
theorem zCa {n b : Nat} (hN : xs.length ≤ 9223372036854775807) {I : Nat → World → Prop} (hfacts : ∀ i A, I i A → St (AtC ⟨b, 0, none⟩ [.one (.slice q.1 xs.length q.2)]) A [] ∧ St (SlQ zbZ xs q) A []) (lo : Nat) (J : Nat → World → Prop) (Jx : World → Prop) (W : World) (hJI : ∀ i A, J i A → I i A) (hJ : ∀ i A B, Kept A.heap.size A B → J i A → J i B) (hJx : ∀ A B, Kept A.heap.size A B → Jx A → Jx B)
  (hY : ∀ i A, i < xs.length → J i A → YieldAt (zbK none) (n - 1) Tryz.prog lo (zEo xs i) A fun e B => (e = .returned (.bool true) ∧ J (i + 1) B) ∨ (e = .returned (.bool false) ∧ Jx B)) (h0 : J 0 W) :
  CallsIn (zbK none) n Tryz.prog 150 (#[.func (.yield lo) #[] #[]] ++ #[.pointer (some ⟨b, 0, none⟩)]) W fun e B => (∃ v, e = .returned v) ∧ (J xs.length B ∨ Jx B) := by
 obtain ⟨yv, hyv⟩ : ∃ yv, yv = Value.func (.yield lo) #[] #[] := ⟨_, rfl⟩
 rw [← hyv]
 refine zoE (N := 19) rfl Tryz.func150 rfl rfl fun a0 E0 => ?_
 have e150 : ∀ i : Nat, zFT xs.length b yv i = zcd (zEM b q) (znB xs.length yv i) := fun i => rfl
 have hK0 : ∀ {i k : Nat} {t3 : Int} {lS : LE} {m : MB} {R : List SF} {h : Hn} {a : Act} {A B : World}, J i A → BackK xs b yv t3 lS R → VSt 19 [] [] A k lS m R h a B → Env a 19 [(3, .int .i64 t3), (0, yv), (1, .pointer (some ⟨b, 0, none⟩))] ∧ J i B := fun hj hk H => ⟨hk.env H, hJ _ _ _ (zqW H.frm) hj⟩
 obtain ⟨f1, f2⟩ := hfacts _ _ (hJI _ _ h0)
 have HV0 := zgB (l0 := [(0, .a (.s (.p (.v yv)))), (1, atS 0 0)]) E0 rfl f1 f2
 refine wpIn_seq (zfr (Kn := fun k l m R => BackK xs b yv (((xs.length : Nat) : Int) - 1 - (0 : Nat)) l R) (Kx := fun _ _ _ _ _ => False) (Kr := fun _ _ _ _ => False) zah _ rfl (by
  conv => whnf
  refine zbq (by show _ ≤ ((xs.length : Nat) : Int) - 1; omega) (by show ((xs.length : Nat) : Int) - 1 ≤ _; omega) ?_
  conv => whnf
  exact ⟨rfl, rfl, by first | rfl | (rw [Int.natCast_zero, Int.sub_zero]; rfl), .tail _ (.tail _ (.head _))⟩) HV0 (fun k l m R h a W1 hk H => ?_) (fun _ _ _ _ _ _ _ _ hk _ => hk.elim) fun _ _ _ _ _ _ _ hk _ => hk.elim)
 obtain ⟨E1, j1⟩ := hK0 h0 hk H
 clear hk H HV0 f1 f2 E0 h0 a0
 refine wpIn_block ((wpIn_wide (n := n)).2 (zsj (fun i a W => Env a 19 (zFT xs.length b yv i) ∧ i ≤ xs.length ∧ J i W) (fun i => xs.length - i) 0 ⟨E1, Nat.zero_le _, j1⟩ fun i a A ⟨E, hi, hj⟩ => (wpIn_wide (n := n)).1 ?_))
 obtain ⟨f1, f2⟩ := hfacts _ _ (hJI _ _ hj)
 have HV := zgB (l0 := znB xs.length yv i) E rfl f1 f2
 by_cases hlt : i < xs.length
 case neg =>
  obtain rfl : i = xs.length := by omega
  refine wpIn_seq (zfr (Kn := fun _ _ _ _ => False) (Kx := fun j k l m R => j = 0 ∧ BackK xs b yv (((xs.length : Nat) : Int) - 1 - (xs.length : Nat)) l R) (Kr := fun _ _ _ _ => False) zah _ rfl (by
   conv => whnf
   refine vIf (fun hc => ?_) fun hc => ?_
   ·have : (((xs.length : Nat) : Int) - 1 - (xs.length : Nat)) ≥ 0 := of_decide_eq_true hc
    omega
   ·conv => whnf
    exact ⟨rfl, rfl, rfl, rfl, .tail _ (.tail _ (.head _))⟩) HV (fun _ _ _ _ _ _ _ hk _ => hk.elim) (fun j k l m R h a W1 hk H => ?_) fun _ _ _ _ _ _ _ hk _ => hk.elim)
  obtain ⟨rfl, hk⟩ := hk
  obtain ⟨E2, j2⟩ := hK0 hj hk H
  refine (?_ : bodyPost Tryz.prog Tryz.f150 (fun e B => (∃ v, e = .returned v) ∧ (J xs.length B ∨ Jx B)) .normal _ _)
  exact ⟨E2.defers, _, results_none rfl _ _ _, ⟨_, rfl⟩, .inl j2⟩
 case pos =>
  obtain ⟨x, hx⟩ : ∃ x, xs[xs.length - 1 - i]? = some x := ⟨_, jP (by omega)⟩
  refine wpIn_seq (zfr (Kn := fun k l m R => BackK xs b yv (((xs.length : Nat) : Int) - 1 - (i : Nat)) l R) (Kx := fun _ _ _ _ _ => False) (Kr := fun _ _ _ _ => False) zah _ rfl (by
   conv => whnf
   refine vIf (fun hc => ?_) fun hc => ?_
   ·conv => whnf
    exact ⟨rfl, rfl, rfl, .tail _ (.tail _ (.head _))⟩
   ·have : ¬ (((xs.length : Nat) : Int) - 1 - (i : Nat)) ≥ 0 := of_decide_eq_false hc
    omega) HV (fun k l m R h a W1 hk H => ?_) (fun _ _ _ _ _ _ _ _ hk _ => hk.elim) fun _ _ _ _ _ _ _ hk _ => hk.elim)
  obtain ⟨E2, j2⟩ := hK0 hj hk H
  clear hk H HV f1 f2 E hj
  obtain ⟨f1, f2⟩ := hfacts _ _ (hJI _ _ j2)
  have HV := zgB (l0 := znB xs.length yv i) E2 rfl f1 f2
  refine wpIn_seq (wpIn_block (wpIn_seq (wpIn_region_lit ?_)))
  refine zoF 6 (K := fun k l m R => BackK xs b yv (((xs.length : Nat) : Int) - 1 - (i : Nat)) l R ∧ zbJ l 11 = some (.a (.s (.p (.v yv)))) ∧ zbJ l 12 = some (zam .i64 (((xs.length : Nat) : Int) - 1 - (i : Nat))) ∧ zbJ l 16 = some (.a (.agg [.one (.p (.v (.int .u64 ((x.1 : Nat) : Int)))), .key x.2]))) zah HV rfl ?_ fun k l m R h a W1 hk H => ?_
  ·conv => whnf
   refine ⟨xs.length - 1 - i, ⟨by omega, by omega, by omega⟩, ?_⟩
   conv => whnf
   refine za8 (zaR (T := zbZ) (x := x) (n := 33) (off := 0) (sub := [.one (.int .u64 ((x.1 : Nat) : Int)), .key x.2]) (sv := .a (.agg [.one (.p (.v (.int .u64 ((x.1 : Nat) : Int)))), .key x.2])) 1 hx (fun _ => rfl) rfl rfl rfl (by kernel_rfl) (fun _ => .inl ⟨rfl, rfl⟩)) rfl rfl ?_
   conv => whnf
   exact ⟨⟨rfl, rfl, rfl, .tail _ (.tail _ (.head _))⟩, rfl, rfl, rfl⟩
  obtain ⟨hk, k11, k12, k16⟩ := hk
  obtain ⟨E3, j3⟩ := hK0 j2 hk H
  have v11 := H.env.val 11 _ (zaZ h _ _ _ k11)
  have v12 := H.env.val 12 _ (zaZ h _ _ _ k12)
  have v16 := H.env.val 16 _ (zaZ h _ _ _ k16)
  obtain ⟨fn, tmps, assign, body, hy, hR⟩ := hY i W1 hlt j3
  replace hy : (Instr.yield lo #[.int .i64 (((xs.length : Nat) : Int) - 1 - (i : Nat)), skV x]).run Tryz.prog W1 = .ok (.round lo fn tmps assign body) W1 := by
   unfold zEo at hy
   rw [hx] at hy
   exact hy
  clear hk H HV f1 f2 E2 j2 k11 k12 k16
  refine wpListIn_plain rfl fun K hK => zxT rfl (v11.trans hyv) (args := #[.int .i64 (((xs.length : Nat) : Int) - 1 - (i : Nat)), skV x]) (by simp only [List.map_toArray, List.map_cons, List.map_nil]; rw [show a.eval (.tmp 12) = _ from v12, show a.eval (.tmp 16) = _ from v16]; rfl) hy hR fun e W2 h => ?_
  rcases h with ⟨rfl, j4⟩ | ⟨rfl, jx⟩
  ·refine ⟨_, rfl, hK _ _ ?_⟩
   have E4 := E3.put (d := 17) (v := .bool true) rfl
   obtain ⟨f1, f2⟩ := hfacts _ _ (hJI _ _ j4)
   have HV := zgB (l0 := (17, za4 true) :: znB xs.length yv i) E4 rfl f1 f2
   refine zoF 1 (K := fun k l m R => BackK xs b yv (((xs.length : Nat) : Int) - 1 - (i : Nat)) l R ∧ zbJ l 18 = some (za4 false)) zah HV rfl (by
     conv => whnf
     exact ⟨⟨rfl, rfl, rfl, .tail _ (.tail _ (.head _))⟩, rfl⟩) fun k l m R h a W3 hk H => ?_
   obtain ⟨E5, j5⟩ := hK0 j4 hk.1 H
   refine wpIn_cond_false (H.env.val 18 _ (zaZ h _ _ _ hk.2)) (wpIn_skip ?_)
   obtain ⟨g1, g2⟩ := hfacts _ _ (hJI _ _ j5)
   refine zfr (Kn := fun k l m R => BackK xs b yv (((xs.length : Nat) : Int) - 1 - ((i + 1 : Nat) : Int)) l R) (Kx := fun _ _ _ _ _ => False) (Kr := fun _ _ _ _ => False) zah _ rfl (by
    conv => whnf
    refine za5 (z' := ((xs.length : Nat) : Int) - 1 - ((i + 1 : Nat) : Int)) (by omega) (by omega) (by omega) ?_
    conv => whnf
    exact ⟨rfl, rfl, rfl, .tail _ (.tail _ (.head _))⟩) (zgB (l0 := znB xs.length yv i) E5 rfl g1 g2) (fun k l m R h a W4 hk H => ?_) (fun _ _ _ _ _ _ _ _ hk _ => hk.elim) fun _ _ _ _ _ _ _ hk _ => hk.elim
   obtain ⟨E6, j6⟩ := hK0 j5 hk H
   exact ⟨i + 1, ⟨E6, hlt, j6⟩, by omega⟩
  ·refine ⟨_, rfl, hK _ _ ?_⟩
   have E4 := E3.put (d := 17) (v := .bool false) rfl
   have HV : VSt 19 [] [] W2 1 [(17, za4 false)] [] [] (zEM b q) _ W2 := zB9 (E4.sel fun p hp => by rcases List.mem_singleton.1 hp with rfl; rfl) rfl
   refine zoF 1 (K := fun k l m R => zbJ l 18 = some (za4 true)) zah HV rfl (by
     conv => whnf
     exact rfl) fun k l m R h a W3 hk H => ?_
   refine wpIn_cond_true (H.env.val 18 _ (zaZ h _ _ _ hk)) (wpIn_ret ?_)
   exact ⟨H.env.defers, _, results_none rfl _ _ _, ⟨_, rfl⟩, .inr (hJx _ _ (zqW H.frm) jx)⟩
def zhf (g : Nat) : List (Nat × List Nat) → Bool
 | [] => true
 | x :: l => decide (x.1 < g) && zhf x.1 l
def zrS (r : Rat) : Bool := decide (r.gen ≤ 4294967296) && (decide (r.left.length ≤ 1024) && zhf r.gen r.left.reverse)
def zc4 (r : Rat) : Int := if zrS r then 0 else 1
structure CutK (r : Rat) (k : Nat) (l : LE) (m : MB) (R : List SF) : Prop where
 g1 : r.gen ≤ 4294967296
 g2 : r.left.length ≤ 1024
 t2 : zbJ l 2 = some (atS 2 0)
 t3 : zbJ l 3 = some (atS 3 0)
 t19 : zbJ l 19 = some (.a (.s (.fn (.func 150) [] [.at_ 5 0])))
 m2 : zaA m 2 = some (.blk [.one (.p (.v (.int .i64 0)))] 38)
 m3 : zaA m 3 = some (.blk [.one (.p (.v (.int .u64 ((r.gen : Nat) : Int))))] 32)
 m5 : zaA m 5 = some (.blk [.one (.p (.hd 4 r.left.length))] 44)
 f4 : SF.sl 4 r.left.length (SlF zbZ r.left) ∈ R
theorem zkU {F : Fence} {n : Nat} {P : Program} {fn : Func} {Rr : Ending → World → Prop} {a : Act} {w : World} (h : bodyPost P fn Rr .ret a w) : bodyPostM F n P fn Rr .ret a w := by
 obtain ⟨hd, v, hr, hR⟩ := h
 show LeavesInM F n P fn a.tmps Rr a.defers .returning w
 rw [hd]
 exact ⟨v, hr, hR⟩
theorem zqX {G : List Nat} {W A B : World} (h : Frm G W A) (k : Kept W.heap.size A B) : Frm G W B := ⟨k.os.trans h.os, k.tape.trans h.tape, k.output.trans h.output, jU h.size k.size, fun i hi hn => (k.block i hi).trans (h.block i hi hn)⟩
abbrev mark (D : Nat) : Deferred := { target := .collected D, args := #[] }
def hn2 (b2 b3 : Nat) : Hn := ⟨fun i => if i = 2 then b2 else b3, fun _ => (none, 0), fun _ _ => []⟩
theorem zvq {N b2 b3 : Nat} {l0 : LE} {c2 c3 : List SC} {t2 t3 : Nat} {a : Act} {W : World} (E : Env a N (zcd (hn2 b2 b3) l0)) (hne : b2 ≠ b3) (h2 : (Res.blk b2 (ca (zaD (hn2 b2 b3) c2)) t2).holds W) (h3 : (Res.blk b3 (ca (zaD (hn2 b2 b3) c3)) t3).holds W) (hwl : wfE (lt_ 4) l0 = true) (hwm : wfM (lt_ 4) [(2, .blk c2 t2), (3, .blk c3 t3)] = true) :
  VSt N [] [b2, b3] W 4 l0 [(2, .blk c2 t2), (3, .blk c3 t3)] [.b 2 (fun y _ => y = b2), .b 3 (fun y _ => y = b3)] (hn2 b2 b3) a W := by
 refine ⟨E, ⟨fun _ h => (by cases h), fun q hq => ?_, ?_, fun _ _ h => (by cases h), fun f hf => ?_⟩, Frm.refl _ _, fun j hj => .inl hj, hwl, hwm, rfl⟩
 ·rcases List.mem_cons.1 hq with rfl | hq
  ·exact h2
  ·rcases List.mem_singleton.1 hq with rfl
   exact h3
 ·show [b2, b3].Nodup
  simp [hne]
 ·rcases List.mem_cons.1 hf with rfl | hf
  ·exact fun _ _ => rfl
  ·rcases List.mem_singleton.1 hf with rfl
   exact fun _ _ => rfl
theorem zzy {a : Act} {A : World} {b2 D : Nat} {z : Int} {r : Rat} (E : Env a 28 [(2, .pointer (some ⟨b2, 0, none⟩))]) (h2 : (Res.blk b2 (ca [.one (.int .i64 z)]) 38).holds A) (hD : A.heap[D]? = some (.deferred (some []))) (hF : Frm [] w A) (hDw : w.heap.size ≤ D) (hX : ∀ k ∈ X, k < w.heap.size) (hz : zc4 r = z) :
  bodyPostM (zbK none) 5 Tryz.prog Tryz.f83 (fun e w' => ∃ h : Hn, e = .returned ((.a (.s (.p (.v (.int .i64 (zc4 r))))) : SV).den h) ∧ Sep X [] w w' (zdN h 0 []) (zaT h [])) .ret (dfr [mark D] a) A := by
 have hne : D ≠ b2 := fun e => by
  have h2' : A.heap[b2]? = some (.cells (ca [.one (.int .i64 z)]) 38 (0, 0)) := h2
  rw [← e, hD] at h2'
  cases h2'
 refine ⟨by simp, .inl ⟨D, _, rfl, run_takeDeferred hD, ?_⟩⟩
 have h2w : (Res.blk b2 (ca [.one (.int .i64 z)]) 38).holds (A.putObj D (.deferred none)) := zbx h2 fun j hj => World.putObj_heap_other fun e => hne (by rcases List.mem_singleton.1 hj with rfl; first | exact e | exact e.symm)
 have HV : VSt 28 [] [b2] (A.putObj D (.deferred none)) 1 [(2, atS 0 0)] [(0, .blk [.one (.p (.v (.int .i64 z)))] 38)] [] ⟨fun _ => b2, fun _ => (none, 0), fun _ _ => []⟩ a (A.putObj D (.deferred none)) := by
  refine ⟨E, ⟨fun _ h => (by cases h), fun q hq => ?_, (by show [b2].Nodup; simp), fun _ _ h => (by cases h), fun _ h => (by cases h)⟩, Frm.refl _ _, fun j hj => .inl hj, rfl, rfl, rfl⟩
  rcases List.mem_singleton.1 hq with rfl
  exact h2w
 have := zgb (Rr := fun e w' => e = .returned (.int .i64 z)) (fn := Tryz.f83) (rs := [.cell 2 38]) zah rfl (by decide) (fun _ h => (by cases h)) HV (by
  conv => whnf
  exact ⟨fun h w _ _ _ _ _ => rfl⟩)
 obtain ⟨_, v, hr, hv⟩ := this
 obtain rfl := Ending.returned.inj hv
 have hF2 : Frm [] w (A.putObj D (.deferred none)) := hF.trans (Y := [D]) ⟨rfl, rfl, rfl, by simp [World.putObj], fun k hk hn => World.putObj_heap_other (by simp at hn; omega)⟩ fun k hk => by rcases List.mem_singleton.1 hk with rfl; exact .inr hDw
 exact ⟨_, hr, ⟨fun _ => 0, fun _ => (none, 0), fun _ _ => []⟩, by rw [hz]; rfl, hF2, hX, fun _ h => (by cases h), List.nodup_nil, fun _ h => (by cases h), fun _ h => (by cases h)⟩
theorem znD {r : Rat} (hX : ∀ k ∈ X, k < w.heap.size) (hq : St (SlQ zbZ r.left q) w X) : Ct Tryz.prog 83 [.agg (ca (zdL.ch r q))] X w (.a (.s (.p (.v (.int .i64 (zc4 r)))))) [] [] := by
 have hlen : r.left.length ≤ 9223372036854775807 := SlQ.big hq
 obtain ⟨Rr, hRr⟩ : ∃ Rr : Ending → World → Prop, Rr = fun e w' => ∃ h : Hn, e = .returned ((.a (.s (.p (.v (.int .i64 (zc4 r))))) : SV).den h) ∧ Sep X [] w w' (zdN h 0 []) (zaT h []) := ⟨_, rfl⟩
 show Calls _ _ _ _ _
 refine (callsIn_wide (n := 5)).1 ?_
 refine zna (N := 28) rfl Tryz.func83 rfl rfl fun a E => ?_
 have HV : VSt 28 X [] w 1 (zh5 0 [.a (.agg [.key r.chain, .one (.p (.v (.int .u64 ((r.gen : Nat) : Int)))), .one (.p (.hd 0 r.left.length))])]) [] [.sl 0 r.left.length (SlF zbZ r.left)] (hnQ [q]) a w := by
  refine ⟨E, ⟨hX, fun _ h => (by cases h), List.nodup_nil, fun _ h => (by cases h), fun f hf => ?_⟩, Frm.refl _ _, fun _ h => (by cases h), rfl, rfl, rfl⟩
  rcases List.mem_singleton.1 hf with rfl
  exact hq.mono (by simp [zae, zad])
 rw [← hRr]
 refine zDM (Kn := fun k l m R => CutK r k l m R) (Kr := zwM tab [.cell 2 38] (RetOk X [] w Rr)) zah _ _ _ _ rfl rfl rfl rfl ?_ HV (fun k l m R h a W hk H => ?_) fun k l m R h a W hk H => zkU (zgb zah rfl (by decide) hX H hk)
 ·rw [hRr]
  have e0 : (((r.gen : Nat) : Int) > 4294967296) = ¬ r.gen ≤ 4294967296 := by
   apply propext
   omega
  conv => whnf
  cases hc : decide (((r.gen : Nat) : Int) > 4294967296) with
  | true =>
   have hn : ¬ r.gen ≤ 4294967296 := by simpa [e0] using hc
   have hz : zc4 r = 1 := by simp [zc4, zrS, hn]
   rw [hz]
   conv => whnf
   exact zag rfl
  | false =>
   have hg : r.gen ≤ 4294967296 := by simpa [e0] using hc
   conv => whnf
   refine vIf (fun hc => ?_) fun hc => ?_
   ·have h2 : ((r.left.length : Nat) : Int) > 1024 := of_decide_eq_true hc
    have hz : zc4 r = 1 := by simp [zc4, zrS, show ¬ r.left.length ≤ 1024 by omega]
    rw [hz]
    conv => whnf
    exact zag rfl
   have h2 : ¬ ((r.left.length : Nat) : Int) > 1024 := of_decide_eq_false hc
   conv => whnf
   refine zac (sv := .a (.s (.fn (.func 150) [] [.at_ 1 0]))) (rs := [.gone, .blk [.one (.p (.hd 0 r.left.length))] 44]) (Rs := [.sl 0 r.left.length (SlF zbZ r.left)]) rfl rfl rfl (by kernel_rfl) (fun h X w H => zoT H.xk (H.fact 0 rfl)) rfl rfl rfl ?_
   conv => whnf
   exact ⟨hg, by omega, rfl, rfl, rfl, rfl, rfl, rfl, .head _⟩
 ·obtain ⟨b2, hb2⟩ : ∃ b, h.b 2 = b := ⟨_, rfl⟩
  obtain ⟨b3, hb3⟩ : ∃ b, h.b 3 = b := ⟨_, rfl⟩
  obtain ⟨b5, hb5⟩ : ∃ b, h.b 5 = b := ⟨_, rfl⟩
  obtain ⟨q4, hq4⟩ : ∃ q, h.r 4 = q := ⟨_, rfl⟩
  have e2 : a.eval (.tmp 2) = .pointer (some ⟨b2, 0, none⟩) := by rw [← hb2]; exact H.env.val 2 _ (zaZ h _ _ _ hk.t2)
  have e3 : a.eval (.tmp 3) = .pointer (some ⟨b3, 0, none⟩) := by rw [← hb3]; exact H.env.val 3 _ (zaZ h _ _ _ hk.t3)
  have e19 : a.eval (.tmp 19) = .func (.func 150) #[] #[.pointer (some ⟨b5, 0, none⟩)] := by rw [← hb5]; exact H.env.val 19 _ (zaZ h _ _ _ hk.t19)
  have hp2 := zaM h m [] 2 _ hk.m2 (by simp)
  have hp3 := zaM h m [2] 3 _ hk.m3 (by simp)
  have hp5 := zaM h m [3, 2] 5 _ hk.m5 (by simp)
  have hp := hp2.trans ((hp3.trans (hp5.append_left _)).append_left _)
  have hkp := zaw hp
  have hnod := (hkp.nodup_iff).1 H.sp.apart
  have hmem : ∀ x ∈ [b2, b3, b5], x ∈ zad (zae h [] m) := fun x hx => hkp.mem_iff.2 (by
   show x ∈ h.b 2 :: h.b 3 :: h.b 5 :: _
   rw [hb2, hb3, hb5]
   simp at hx ⊢
   rcases hx with rfl | rfl | rfl <;> simp)
  have hnod2 : (b2 :: b3 :: b5 :: zad (zae h [5, 3, 2] m)).Nodup := by
   rw [← hb2, ← hb3, ← hb5]
   exact hnod
  have n23 : b2 ≠ b3 := fun e => by simp [e] at hnod2
  have n25 : b2 ≠ b5 := fun e => by simp [e] at hnod2
  have n35 : b3 ≠ b5 := fun e => by simp [e] at hnod2
  have o2 : (Res.blk b2 (ca [.one (.int .i64 0)]) 38).holds W := by rw [← hb2]; exact zco H.sp hk.m2
  have o3 : (Res.blk b3 (ca [.one (.int .u64 ((r.gen : Nat) : Int))]) 32).holds W := by rw [← hb3]; exact zco H.sp hk.m3
  have o5 : (Res.blk b5 (ca [.one (.slice q4.1 r.left.length q4.2)]) 44).holds W := by rw [← hb5, ← hq4]; exact zco H.sp hk.m5
  have hS : St (SlQ zbZ r.left q4) W (X ++ zad (zae h [] m)) := by rw [← hq4]; exact H.sp.facts _ (zaQ.2 ⟨_, hk.f4, rfl⟩)
  have hw2 : ∀ x ∈ [b2, b3, b5], w.heap.size ≤ x ∧ x < W.heap.size := fun x hx => ⟨(H.mine x (hmem x hx)).resolve_left (by simp), H.sp.lt x (hmem x hx)⟩
  have hFw := H.frm
  have hds := H.env.defers
  have hEa := H.env
  obtain ⟨rv, hrv⟩ : ∃ rv, rv = r.left.reverse := ⟨_, rfl⟩
  have hrl : rv.length = r.left.length := by rw [hrv, List.length_reverse]
  have hbig : (W.heap.size : Nat) = W.heap.size := rfl
  refine wpIn_block (zuF (N := r.left.length) (encs := zEo r.left) e19 (fun args w => zi8 (by kernel_rfl)) (fun i => rfl)
   (fun i A => Frm [b2, b3] W A ∧ (Res.blk b2 (ca [.one (.int .i64 0)]) 38).holds A ∧ ∃ g : Nat, (Res.blk b3 (ca [.one (.int .u64 ((g : Nat) : Int))]) 32).holds A ∧ zhf r.gen rv = zhf g (rv.drop i))
   (fun c A => c = .ret ∧ Frm [b2, b3] W A ∧ (Res.blk b2 (ca [.one (.int .i64 1)]) 38).holds A ∧ zhf r.gen rv = false)
   (fun i A B hAB ⟨h1, h2, g, h3, h4⟩ => ⟨zqX h1 hAB, zbx h2 fun j hj => hAB.block j (by rcases List.mem_singleton.1 hj with rfl; exact (hw2 _ (by simp)).2), g, zbx h3 fun j hj => hAB.block j (by rcases List.mem_singleton.1 hj with rfl; exact (hw2 _ (by simp)).2), h4⟩)
   (fun c A B hAB ⟨h0, h1, h2, h3⟩ => ⟨h0, zqX h1 hAB, zbx h2 fun j hj => hAB.block j (by rcases List.mem_singleton.1 hj with rfl; exact (hw2 _ (by simp)).2), h3⟩)
   ⟨Frm.refl _ _, o2, r.gen, o3, by rw [jG]⟩ (zCa (q := q4) hlen fun i A ⟨h1, h2, h3⟩ => ⟨?_, ?_⟩) ?_ ?_ ?_)
  ·have o5A : (Res.blk b5 (ca [.one (.slice q4.1 r.left.length q4.2)]) 44).holds A := zbx o5 fun j hj => h1.block j (by rcases List.mem_singleton.1 hj with rfl; exact (hw2 _ (by simp)).2) (by rcases List.mem_singleton.1 hj with rfl; simp; exact ⟨fun e => n25 e.symm, fun e => n35 e.symm⟩)
   exact fun A' hA' => zeo (t := 44) (fr := (0, 0)) (zbx o5A fun j hj => hA' j (by rcases List.mem_singleton.1 hj with rfl; exact zfV o5A _ (List.mem_singleton.2 rfl)) (by simp))
  ·exact hS.step h1.size (fun k hk hn => h1.block k hk fun hm => hn (List.mem_append_right _ (hmem k (by simp at hm ⊢; rcases hm with rfl | rfl <;> simp)))) (fun k hk => by cases hk)
  ·rintro i A hi ⟨h1, h2, g, h3, h4⟩ hsz
   obtain ⟨x, hx⟩ : ∃ x, r.left[r.left.length - 1 - i]? = some x := ⟨_, jP (by omega)⟩
   have hxr : rv[i]? = some x := by rw [hrv, List.getElem?_reverse hi]; exact hx
   have hdr : rv.drop i = x :: rv.drop (i + 1) := by
    obtain ⟨hlt, e⟩ := List.getElem?_eq_some_iff.1 hxr
    rw [List.drop_eq_getElem_cons hlt, e]
   have hgo : zhf r.gen rv = (decide (x.1 < g) && zhf x.1 (rv.drop (i + 1))) := by rw [h4, hdr]; rfl
   have hen : zEo r.left i = #[.int .i64 ((r.left.length : Nat) - 1 - (i : Nat) : Int), skV x] := by unfold zEo; rw [hx]
   rw [hen, show (#[20, 21] : Array Tmp).zip #[Value.int .i64 ((r.left.length : Nat) - 1 - (i : Nat) : Int), skV x] = #[(20, Value.int .i64 ((r.left.length : Nat) - 1 - (i : Nat) : Int)), (21, skV x)] from (by simp), ← Array.foldl_toList]
   have EA : Env { tmps := (a.tmps.setIfInBounds 20 (.int .i64 ((r.left.length : Nat) - 1 - (i : Nat) : Int))).setIfInBounds 21 (skV x), defers := [] } 28 (zcd (hn2 b2 b3) [(21, .a (.agg [.one (.p (.v (.int .u64 ((x.1 : Nat) : Int)))), .key x.2])), (2, atS 2 0), (3, atS 3 0)]) := by
    have e1 := (hEa.put (d := 20) (v := .int .i64 ((r.left.length : Nat) - 1 - (i : Nat) : Int)) rfl).put (d := 21) (v := skV x) rfl
    refine Env.sel (l := (21, skV x) :: (20, .int .i64 ((r.left.length : Nat) - 1 - (i : Nat) : Int)) :: zcd h l) ⟨rfl, e1.size, e1.val⟩ fun p hp => ?_
    rcases List.mem_cons.1 hp with rfl | hp
    ·rfl
    rcases List.mem_cons.1 hp with rfl | hp
    ·show zfQ (zcd h l) 2 = _
     rw [zaZ h _ _ _ hk.t2]
     show some (Value.pointer (some ⟨h.b 2, 0, none⟩)) = _
     rw [hb2]
     rfl
    ·rcases List.mem_singleton.1 hp with rfl
     show zfQ (zcd h l) 3 = _
     rw [zaZ h _ _ _ hk.t3]
     show some (Value.pointer (some ⟨h.b 3, 0, none⟩)) = _
     rw [hb3]
     rfl
   have hnL : ∀ y, W.heap.size ≤ y → y ∉ [b2, b3] := fun y hy hm => by
    rcases List.mem_cons.1 hm with rfl | hm
    ·have := (hw2 _ (by simp : y ∈ [y, b3, b5])).2; omega
    ·rcases List.mem_singleton.1 hm with rfl
     have := (hw2 _ (by simp : y ∈ [b2, y, b5])).2; omega
   have HV2 := zvq (c2 := [.one (.p (.v (.int .i64 0)))]) (c3 := [.one (.p (.v (.int .u64 ((g : Nat) : Int))))]) EA n23 h2 h3 rfl rfl
   refine zxU [.b 2 (fun y _ => y = b2), .b 3 (fun y _ => y = b3)] (Kn := fun k l m R => x.1 < g ∧ zaA m 2 = some (.blk [.one (.p (.v (.int .i64 0)))] 38) ∧ zaA m 3 = some (.blk [.one (.p (.v (.int .u64 ((x.1 : Nat) : Int))))] 32) ∧ SF.b 2 (fun y _ => y = b2) ∈ R ∧ SF.b 3 (fun y _ => y = b3) ∈ R)
    (Kr := fun k l m R => ¬ x.1 < g ∧ zaA m 2 = some (.blk [.one (.p (.v (.int .i64 1)))] 38) ∧ SF.b 2 (fun y _ => y = b2) ∈ R) zah rfl rfl (hnL _ (by omega)) (by omega) (hnL _ (by omega)) (by omega) HV2 ?_ (fun h r hr w w' hw => ?_) (fun k l m R h B hk HB hF => ?_) fun k l m R h B hk HB hF => ?_
   ·conv => whnf
    refine ⟨fun y hy => hy, ?_⟩
    conv => whnf
    refine vIf (fun hc => ?_) fun hc => ?_
    ·have hc : ((x.1 : Nat) : Int) ≥ ((g : Nat) : Int) := of_decide_eq_true hc
     conv => whnf
     exact ⟨by omega, rfl, .head _⟩
    ·have hc : ¬ ((x.1 : Nat) : Int) ≥ ((g : Nat) : Int) := of_decide_eq_false hc
     conv => whnf
     exact ⟨by omega, rfl, rfl, .head _, .tail _ (.head _)⟩
   ·rcases List.mem_cons.1 hr with rfl | hr
    ·exact hw
    ·rcases List.mem_singleton.1 hr with rfl
     exact hw
   ·obtain ⟨k1, k2, k3, k4, k5⟩ := hk
    have f2 : h.b 2 = b2 := (HB.facts _ (zaQ.2 ⟨_, k4, rfl⟩)).now
    have f3 : h.b 3 = b3 := (HB.facts _ (zaQ.2 ⟨_, k5, rfl⟩)).now
    refine ⟨h1.trans hF fun y hy => ?_, by rw [← f2]; exact zco HB k2, x.1, by rw [← f3]; exact zco HB k3, by rw [hgo, decide_eq_true k1, Bool.true_and]⟩
    rcases List.mem_cons.1 hy with rfl | hy
    ·exact .inr (by omega)
    ·exact .inl hy
   ·obtain ⟨k1, k2, k4⟩ := hk
    have f2 : h.b 2 = b2 := (HB.facts _ (zaQ.2 ⟨_, k4, rfl⟩)).now
    refine ⟨rfl, h1.trans hF fun y hy => ?_, by rw [← f2]; exact zco HB k2, by rw [hgo, decide_eq_false k1, Bool.false_and]⟩
    rcases List.mem_cons.1 hy with rfl | hy
    ·exact .inr (by omega)
    ·exact .inl hy
  ·rintro A ⟨h1, h2, g, h3, h4⟩ hD hDlt
   have hma : zgV a W.heap.size = dfr [mark W.heap.size] a := by unfold zgV dfr mark; rw [hds]
   rw [hma]
   have hz : zc4 r = 0 := by
    have : rv.drop r.left.length = [] := by rw [← hrl]; exact List.drop_length
    rw [this] at h4
    rw [hrv] at h4
    simp [zc4, zrS, hk.g1, hk.g2, h4, zhf]
   have EA : Env a 28 (zcd (hn2 b2 b3) [(2, atS 2 0)]) := hEa.sel fun p hp => by
    rcases List.mem_singleton.1 hp with rfl
    rw [zaZ h _ _ _ hk.t2]
    show some (Value.pointer (some ⟨h.b 2, 0, none⟩)) = _
    rw [hb2]
    rfl
   have HV2 := zvq (c2 := [.one (.p (.v (.int .i64 0)))]) (c3 := [.one (.p (.v (.int .u64 ((g : Nat) : Int))))]) EA n23 h2 h3 rfl rfl
   refine zkC (ds := [mark W.heap.size]) (Kn := fun _ _ _ _ => False) (Kx := noX) (Kr := fun k l m R => zaA m 2 = some (.blk [.one (.p (.v (.int .i64 0)))] 38) ∧ zbJ l 2 = some (atS 2 0) ∧ SF.b 2 (fun y _ => y = b2) ∈ R) zah _ rfl (by
    conv => whnf
    exact ⟨rfl, rfl, .head _⟩) HV2 (fun _ _ _ _ _ _ _ hk _ => hk.elim) (fun _ _ _ _ _ _ _ _ hk _ => hk.elim) fun k l m R h a B hk' HB => ?_
   obtain ⟨k1, k2, k4⟩ := hk'
   have f2 : h.b 2 = b2 := (HB.sp.facts _ (zaQ.2 ⟨_, k4, rfl⟩)).now
   rw [hRr]
   refine zzy (HB.env.sel fun p hp => ?_) (by have := zco HB.sp k1; rw [f2] at this; exact this) ((HB.frm.block _ hDlt fun hm => ?_).trans hD) ((hFw.trans h1 fun y hy => ?_).trans HB.frm fun y hy => ?_) hFw.size hX hz
   ·rcases List.mem_singleton.1 hp with rfl
    rw [zaZ h _ _ _ k2]
    show some (Value.pointer (some ⟨h.b 2, 0, none⟩)) = _
    rw [f2]
   ·rcases List.mem_cons.1 hm with e | hm
    ·have := (hw2 b2 (by simp)).2; omega
    ·have := (hw2 b3 (by simp)).2
     have := List.mem_singleton.1 hm
     omega
   ·exact .inr (hw2 y (by rcases List.mem_cons.1 hy with rfl | hy; simp; rcases List.mem_singleton.1 hy with rfl; simp)).1
   ·exact .inr (hw2 y (by rcases List.mem_cons.1 hy with rfl | hy; simp; rcases List.mem_singleton.1 hy with rfl; simp)).1
  ·rintro c A ⟨rfl, h1, h2, h3⟩ hD
   refine wpIn_ret ?_
   have hma : zgV a W.heap.size = dfr [mark W.heap.size] a := by unfold zgV dfr mark; rw [hds]
   rw [hma]
   have hz : zc4 r = 1 := by
    rw [hrv] at h3
    simp [zc4, zrS, h3]
   show bodyPostM (zbK none) 5 Tryz.prog Tryz.f83 Rr .ret (dfr [mark W.heap.size] a) A
   rw [hRr]
   refine zzy (hEa.sel fun p hp => ?_) h2 hD (hFw.trans h1 fun y hy => ?_) hFw.size hX hz
   ·rcases List.mem_singleton.1 hp with rfl
    rw [zaZ h _ _ _ hk.t2]
    show some (Value.pointer (some ⟨h.b 2, 0, none⟩)) = _
    rw [hb2]
   ·exact .inr (hw2 y (by rcases List.mem_cons.1 hy with rfl | hy; simp; rcases List.mem_singleton.1 hy with rfl; simp)).1
end
end
section
open Go.RowKit
theorem ziN : Inj zdL := fun x a b h => by
 simp only [zdL, cl, Chunk.cells, List.cons_append, List.nil_append, List.append_cancel_left_eq, List.cons.injEq, Value.slice.injEq, and_true, true_and] at h
 exact Prod.ext h.1 h.2
section
variable {X : List Nat} {w : World}
theorem zCb (hX : ∀ k ∈ X, k < w.heap.size) (xs : List Rat) (q : Qd) (hq : St (SlQ zdL xs q) w X) {g : FuncId} (hg : fnB Tryz.prog g = true) (p : Rat → Bool) (hp : ∀ y ∈ xs, ∀ (X : List Nat) (w : World) (μ : Qd), (∀ k ∈ X, k < w.heap.size) → St (SlQ zbZ y.left μ) w X → Ct Tryz.prog g [.agg (ca (zdL.ch y μ))] X w (za4 (p y)) [] []) :
  Ct Tryz.prog 107 [.slice q.1 xs.length q.2, .func (.func g) #[] #[]] X w (zam .i64 (zj9 p xs)) [] [] := by
 have hbig := SlQ.big hq
 refine vFn (k0 := 1) (rs := [.tmp 4]) (svs := [.a (.s (.p (.hd 0 xs.length))), .a (.s (.p (.v (.func (.func g) #[] #[]))))]) (R0 := [.sl 0 xs.length (SlF zdL xs)]) (hnQ [q]) Tryz.ntmps107 Tryz.func107 rfl rfl rfl rfl rfl zah (by kernel_rfl) hX (fun r hr => by rcases List.mem_singleton.1 hr with rfl; exact hq) ?_
 conv => whnf
 refine ⟨Nat, fun k l m R i => ⟨k, (8, zam .i64 i) :: zaC [0, 1, 7] l, m, R⟩, fun i => i ≤ xs.length ∧ ∀ y ∈ xs.take i, p y = false, fun i => xs.length - i, ⟨0, [], [0], ⟨by omega, by simp⟩, zaE⟩, fun i hφ => ?_⟩
 conv => whnf
 refine vIf (fun h => ?_) fun h => ?_
 ·have hi : i < xs.length := by simpa [Sl.len] using h
  obtain ⟨x, hx⟩ : ∃ x, xs[i]? = some x := ⟨_, jP hi⟩
  have hxi : xs[i] = x := (List.getElem?_eq_some_iff.1 hx).2
  conv => whnf
  refine ⟨i, ⟨rfl, hi, hi⟩, ?_⟩
  conv => whnf
  refine zew (zdF ziN (n := 34) (off := 0) (sub := [.key x.chain, .one (.p (.v (.int .u64 ((x.gen : Nat) : Int)))), .one (.p (.hd 1 x.left.length))]) (Rs := [.sl 1 x.left.length (SlF zbZ x.left)]) 0 (fun μ => [μ]) 1 hx rfl rfl rfl (by kernel_rfl) (.inl ⟨rfl, rfl⟩) (fun μ h hh => by
   have e : h.r 1 = μ := hh 0 (by omega)
   subst e
   rfl) fun μ h w Y hh hn r hr => by
    have e : h.r 1 = μ := hh 0 (by omega)
    rcases List.mem_singleton.1 hr with rfl
    subst e
    exact hn) rfl rfl ?_
  conv => whnf
  refine zac (sv := za4 (p x)) (rs := []) (Rs := []) rfl rfl rfl hg (fun h X w H => hp x (List.mem_of_getElem? hx) _ _ (h.r 1) H.xk (H.fact 0 rfl)) rfl rfl rfl ?_
  conv => whnf
  refine vIf (fun he => ?_) fun he => ?_
  ·conv => whnf
   refine zag ?_
   rw [zh7 hi hφ.2 (by rw [hxi]; exact he)]; rfl
  ·conv => whnf
   refine zbq (by omega) (by omega) ?_
   conv => whnf
   exact ⟨i + 1, [], [1], ⟨⟨by omega, zgd hi hφ.2 (by rw [hxi]; exact he)⟩, Nat.sub_lt_sub_left hi (Nat.lt_succ_self i)⟩, zaE⟩
 ·have hi : i = xs.length := by
   have : ¬ i < xs.length := by simpa [Sl.len] using h
   omega
  conv => whnf
  refine zag ?_
  rw [zgc (by rw [← List.take_length (l := xs), ← hi]; exact hφ.2)]; rfl
theorem zvr (hX : ∀ k ∈ X, k < w.heap.size) (xs : List Rat) (q : Qd) (hq : St (SlQ zdL xs q) w X) {g : FuncId} (hg : fnB Tryz.prog g = true) (p : Rat → Bool) (hp : ∀ y ∈ xs, ∀ (X : List Nat) (w : World) (μ : Qd), (∀ k ∈ X, k < w.heap.size) → St (SlQ zbZ y.left μ) w X → Ct Tryz.prog g [.agg (ca (zdL.ch y μ))] X w (za4 (p y)) [] []) :
  Ct Tryz.prog 84 [.slice q.1 xs.length q.2, .func (.func g) #[] #[]] X w (za4 (xs.any p)) [] [] := by
 refine vFn (k0 := 1) (rs := [.tmp 4]) (svs := [.a (.s (.p (.hd 0 xs.length))), .a (.s (.p (.v (.func (.func g) #[] #[]))))]) (R0 := [.sl 0 xs.length (SlF zdL xs)]) (hnQ [q]) Tryz.ntmps84 Tryz.func84 rfl rfl rfl rfl rfl zah (by kernel_rfl) hX (fun r hr => by rcases List.mem_singleton.1 hr with rfl; exact hq) ?_
 conv => whnf
 refine zac (sv := zam .i64 (zj9 p xs)) (rs := []) (Rs := []) rfl rfl rfl (by kernel_rfl) (fun h X w H => zCb H.xk xs _ (H.fact 0 rfl) hg p hp) rfl rfl rfl ?_
 have ha : (xs.any p) = decide (zj9 p xs ≥ 0) := zka.symm
 rw [ha]
 conv => whnf
 cases hb : decide (zj9 p xs ≥ 0) with
 | true =>
  conv => whnf
  exact zag rfl
 | false =>
  conv => whnf
  exact zag rfl
theorem zvs (hX : ∀ k ∈ X, k < w.heap.size) (r : Rat) (q : Qd) (hq : St (SlQ zbZ r.left q) w X) : Ct Tryz.prog 82 [.agg (ca (zdL.ch r q))] X w (za4 (!zrS r)) [] [] := by
 refine vFn (k0 := 1) (rs := [.tmp 2]) (svs := [.a (.agg [.key r.chain, .one (.p (.v (.int .u64 ((r.gen : Nat) : Int)))), .one (.p (.hd 0 r.left.length))])]) (R0 := [.sl 0 r.left.length (SlF zbZ r.left)]) (hnQ [q]) Tryz.ntmps82 Tryz.func82 rfl rfl rfl rfl rfl zah (by kernel_rfl) hX (fun r hr => by rcases List.mem_singleton.1 hr with rfl; exact hq) ?_
 conv => whnf
 cases hr : zrS r with
 | true =>
  have e : zc4 r = 0 := by simp [zc4, hr]
  refine zac (sv := zam .i64 0) (rs := []) (Rs := []) rfl rfl rfl (by kernel_rfl) (fun h X w H => e ▸ znD H.xk (H.fact 0 rfl)) rfl rfl rfl ?_
  conv => whnf
  exact zag rfl
 | false =>
  have e : zc4 r = 1 := by simp [zc4, hr]
  refine zac (sv := zam .i64 1) (rs := []) (Rs := []) rfl rfl rfl (by kernel_rfl) (fun h X w H => e ▸ znD H.xk (H.fact 0 rfl)) rfl rfl rfl ?_
  conv => whnf
  exact zag rfl
structure Tre.good (t : Tre) : Prop where
 fits : t.fits
 cnt : t.ok = true → (zbu t.two t.ls t.ids.length).length ≤ 1000000
 up : t.ok = true → ∀ (j : Nat) (x : Nd), (zbu t.two t.ls t.ids.length)[j]? = some x → x.up < 0 ∨ (j < x.up.toNat ∧ x.up.toNat < (zbu t.two t.ls t.ids.length).length)
def Mem.path (x : Mem) : List Int × List Nd × Int := zeA x.t.two x.t.kd x.t.ids x.t.ls x.id
def Mem.ok (x : Mem) : Bool := x.t.ok && (decide (x.e.n ≤ 1099511627776) && (decide (x.chains.length = x.t.ids.length) && (x.path.2.2 == 0 && (decide (x.path.1.length = x.secrets.length + 1) && !(x.chains.any fun r => !zrS r)))))
def Mem.way (x : Mem) : List Int := if x.ok then x.path.1 else []
def Mem.err (x : Mem) : Int := if x.ok then 0 else 1
def Mem.val (x : Mem) (q1 q2 q3 q4 q5 : Qd) : Value := (zqU x 0).den (hnQ [q1, q2, q3, q4, q5])
structure Mem.at_ (x : Mem) (q1 q2 q3 q4 q5 : Qd) (w : World) (X : List Nat) : Prop where
 ids : St (SlQ zaF x.t.ids q1) w X
 ls : St (SlQ (zcM zaF) x.t.ls q2) w X
 ps : St (SlQ zb5 x.t.ps q3) w X
 secrets : St (SlQ zb5 x.secrets q4) w X
 chains : St (SlQ zdL x.chains q5) w X
theorem Mem.at_.all {x : Mem} {q1 q2 q3 q4 q5 : Qd} (h : x.at_ q1 q2 q3 q4 q5 w X) : ∀ r ∈ zaT (hnQ [q1, q2, q3, q4, q5]) (zqV x 0), St r w X := fun r hr => by
 rcases List.mem_cons.1 hr with rfl | hr
 ·exact h.ids
 rcases List.mem_cons.1 hr with rfl | hr
 ·exact h.ls
 rcases List.mem_cons.1 hr with rfl | hr
 ·exact h.ps
 rcases List.mem_cons.1 hr with rfl | hr
 ·exact h.secrets
 ·rcases List.mem_singleton.1 hr with rfl
  exact h.chains
theorem zvt {t : Tre} : t.nodes.2 = if t.ok then 0 else 1 := by unfold Tre.nodes; cases t.ok <;> rfl
theorem zEp {x : Mem} {q1 q2 q3 q4 q5 : Qd} (hX : ∀ k ∈ X, k < w.heap.size) (hg : x.t.good) (hs : x.secrets.length ≤ 1000000) (hm : x.at_ q1 q2 q3 q4 q5 w X) :
  Ct Tryz.prog 48 [x.val q1 q2 q3 q4 q5] X w (.tup [.s (.p (.hd 0 x.way.length)), .s (.p (.v (.int .i64 x.err)))]) [.gone] [.sl 0 x.way.length (SlF zaF x.way)] := by
 have bad : x.ok = false → x.way = [] ∧ x.err = 1 := fun h => ⟨by simp [Mem.way, h], by simp [Mem.err, h]⟩
 have hbs := SlQ.big hm.secrets
 refine vFn (k0 := 5) (rs := [.tmp 2, .tmp 3]) (svs := [.a (zqU x 0)]) (R0 := zqV x 0) (hnQ [q1, q2, q3, q4, q5]) Tryz.ntmps48 Tryz.func48 rfl rfl rfl rfl rfl zah (by kernel_rfl) hX hm.all ?_
 conv => whnf
 cases h1 : x.t.ok with
 | false =>
  have e1 : x.t.nodes.2 = 1 := by rw [zvt, h1]; rfl
  obtain ⟨b1, b2⟩ := bad (by simp [Mem.ok, h1])
  rw [b1, b2]
  refine zac (sv := zam .i64 1) (rs := []) (Rs := []) rfl rfl rfl (by kernel_rfl) (fun h X w H => e1 ▸ zji H.xk x.t hg.fits (h.r 0) (h.r 1) (h.r 2) (H.fact 0 rfl) (H.fact 1 rfl) (H.fact 2 rfl)) rfl rfl rfl ?_
  conv => whnf
  first | exact zaK [(0, 6)] [0] (.inr ⟨rfl, rfl, trivial⟩) trivial rfl ⟨.inr (zaB rfl), trivial⟩ | exact zaK [(0, 9)] [0] (.inr ⟨rfl, rfl, trivial⟩) trivial rfl ⟨.inr (zaB rfl), trivial⟩
 | true =>
  have e1 : x.t.nodes.2 = 0 := by rw [zvt, h1]; rfl
  refine zac (sv := zam .i64 0) (rs := []) (Rs := []) rfl rfl rfl (by kernel_rfl) (fun h X w H => e1 ▸ zji H.xk x.t hg.fits (h.r 0) (h.r 1) (h.r 2) (H.fact 0 rfl) (H.fact 1 rfl) (H.fact 2 rfl)) rfl rfl rfl ?_
  conv => whnf
  by_cases h2 : x.e.n ≤ 1099511627776
  case neg =>
   obtain ⟨b1, b2⟩ := bad (by simp [Mem.ok, h1, h2])
   rw [b1, b2]
   refine zac (sv := zam .i64 1) (rs := []) (Rs := []) rfl rfl rfl (by kernel_rfl) (fun h X w H => by
    have := ziH (n := x.e.n) (a := x.e.init) (b := x.e.app) (c := x.e.confirm) (d := x.e.member) (e := x.e.hash) H.xk
    rw [if_neg h2] at this
    exact this) rfl rfl rfl ?_
   conv => whnf
   first | exact zaK [(0, 6)] [0] (.inr ⟨rfl, rfl, trivial⟩) trivial rfl ⟨.inr (zaB rfl), trivial⟩ | exact zaK [(0, 9)] [0] (.inr ⟨rfl, rfl, trivial⟩) trivial rfl ⟨.inr (zaB rfl), trivial⟩
  refine zac (sv := zam .i64 0) (rs := []) (Rs := []) rfl rfl rfl (by kernel_rfl) (fun h X w H => by
   have := ziH (n := x.e.n) (a := x.e.init) (b := x.e.app) (c := x.e.confirm) (d := x.e.member) (e := x.e.hash) H.xk
   rw [if_pos h2] at this
   exact this) rfl rfl rfl ?_
  conv => whnf
  refine vIf (fun hc => ?_) fun hc => ?_
  ·have h3 : ¬ x.chains.length = x.t.ids.length := by
    have : (((x.chains.length : Nat) : Int) != ((x.t.ids.length : Nat) : Int)) = true := hc
    have := bne_iff_ne.1 this
    omega
   obtain ⟨b1, b2⟩ := bad (by simp [Mem.ok, h3])
   rw [b1, b2]
   conv => whnf
   first | exact zaK [(0, 6)] [0] (.inr ⟨rfl, rfl, trivial⟩) trivial rfl ⟨.inr (zaB rfl), trivial⟩ | exact zaK [(0, 9)] [0] (.inr ⟨rfl, rfl, trivial⟩) trivial rfl ⟨.inr (zaB rfl), trivial⟩
  have h3 : x.chains.length = x.t.ids.length := by
   have : (((x.chains.length : Nat) : Int) != ((x.t.ids.length : Nat) : Int)) = false := hc
   have := bne_eq_false_iff_eq.1 this
   omega
  conv => whnf
  obtain ⟨⟨wy, ns, er⟩, hp⟩ : ∃ r, x.path = r := ⟨_, rfl⟩
  refine zac (sv := .tup [.s (.p (.hd 0 wy.length)), .s (.p (.v (.int .i64 er)))]) (rs := [.gone]) (Rs := [.sl 0 wy.length (SlF zaF wy)]) rfl rfl rfl (by kernel_rfl) (fun h X w H => by
   have := zAd H.xk x.t.two x.t.kd rfl x.t.ids x.t.ls x.id (h.r 0) (h.r 1) (H.fact 0 rfl) (H.fact 1 rfl) hg.fits.len hg.fits.lv hg.fits.ok (hg.cnt h1) (hg.up h1)
   rw [show zeA x.t.two x.t.kd x.t.ids x.t.ls x.id = (wy, ns, er) from hp] at this
   exact this) rfl rfl rfl ?_
  conv => whnf
  cases h4 : (er != 0) with
  | true =>
   have h4' : ¬ er = 0 := bne_iff_ne.1 h4
   obtain ⟨b1, b2⟩ := bad (by simp [Mem.ok, hp, h4'])
   rw [b1, b2]
   conv => whnf
   first | exact zaK [(0, 6)] [0] (.inr ⟨rfl, rfl, trivial⟩) trivial rfl ⟨.inr (zaB rfl), trivial⟩ | exact zaK [(0, 9)] [0] (.inr ⟨rfl, rfl, trivial⟩) trivial rfl ⟨.inr (zaB rfl), trivial⟩
  | false =>
   obtain rfl : er = 0 := bne_eq_false_iff_eq.1 h4
   conv => whnf
   refine zbq (by omega) (by show ((x.secrets.length : Nat) : Int) + 1 ≤ _; omega) ?_
   conv => whnf
   refine vIf (fun hc => ?_) fun hc => ?_
   ·have h5 : ¬ wy.length = x.secrets.length + 1 := by
     have : (((wy.length : Nat) : Int) != ((x.secrets.length : Nat) : Int) + 1) = true := hc
     have := bne_iff_ne.1 this
     omega
    obtain ⟨b1, b2⟩ := bad (by simp [Mem.ok, hp, h5])
    rw [b1, b2]
    conv => whnf
    first | exact zaK [(0, 6)] [0] (.inr ⟨rfl, rfl, trivial⟩) trivial rfl ⟨.inr (zaB rfl), trivial⟩ | exact zaK [(0, 9)] [0] (.inr ⟨rfl, rfl, trivial⟩) trivial rfl ⟨.inr (zaB rfl), trivial⟩
   have h5 : wy.length = x.secrets.length + 1 := by
    have : (((wy.length : Nat) : Int) != ((x.secrets.length : Nat) : Int) + 1) = false := hc
    have := bne_eq_false_iff_eq.1 this
    omega
   conv => whnf
   cases h6 : x.chains.any fun r => !zrS r with
   | true =>
    obtain ⟨b1, b2⟩ := bad (by simp [Mem.ok, h6])
    rw [b1, b2]
    refine zac (sv := za4 true) (rs := []) (Rs := []) rfl rfl rfl (by kernel_rfl) (fun h X w H => h6 ▸ zvr H.xk x.chains _ (H.fact 5 rfl) (by kernel_rfl) (fun r => !zrS r) fun y hy X w μ hX hS => zvs hX y μ hS) rfl rfl rfl ?_
    conv => whnf
    first | exact zaK [(0, 6)] [0] (.inr ⟨rfl, rfl, trivial⟩) trivial rfl ⟨.inr (zaB rfl), trivial⟩ | exact zaK [(0, 9)] [0] (.inr ⟨rfl, rfl, trivial⟩) trivial rfl ⟨.inr (zaB rfl), trivial⟩
   | false =>
    have hok : x.ok = true := by simp only [Mem.ok, h1, h2, h3, hp, h5, h6]; rfl
    have hw : x.way = wy := by rw [Mem.way, if_pos hok, hp]
    have he : x.err = 0 := by rw [Mem.err, if_pos hok]
    rw [hw, he]
    refine zac (sv := za4 false) (rs := []) (Rs := []) rfl rfl rfl (by kernel_rfl) (fun h X w H => h6 ▸ zvr H.xk x.chains _ (H.fact 5 rfl) (by kernel_rfl) (fun r => !zrS r) fun y hy X w μ hX hS => zvs hX y μ hS) rfl rfl rfl ?_
    conv => whnf
    exact zaK [(0, 6)] [0] (.inl rfl) trivial rfl ⟨.inl rfl, trivial⟩
theorem zvu {x : Mem} {q1 q2 q3 q4 q5 : Qd} (hX : ∀ k ∈ X, k < w.heap.size) (hg : x.t.good) (hs : x.secrets.length ≤ 1000000) (hm : x.at_ q1 q2 q3 q4 q5 w X) :
  Ct Tryz.prog 26 [x.val q1 q2 q3 q4 q5] X w (zam .i64 x.err) [] [] := by
 refine vFn (k0 := 5) (rs := [.tmp 2]) (svs := [.a (zqU x 0)]) (R0 := zqV x 0) (hnQ [q1, q2, q3, q4, q5]) Tryz.ntmps26 Tryz.func26 rfl rfl rfl rfl rfl zah (by kernel_rfl) hX hm.all ?_
 conv => whnf
 refine zac (sv := .tup [.s (.p (.hd 0 x.way.length)), .s (.p (.v (.int .i64 x.err)))]) (rs := [.gone]) (Rs := [.sl 0 x.way.length (SlF zaF x.way)]) rfl rfl rfl (by kernel_rfl) (fun h X w H => zEp (q1 := h.r 0) (q2 := h.r 1) (q3 := h.r 2) (q4 := h.r 3) (q5 := h.r 4) H.xk hg hs ⟨H.fact 0 rfl, H.fact 1 rfl, H.fact 2 rfl, H.fact 3 rfl, H.fact 4 rfl⟩) rfl rfl rfl ?_
 conv => whnf
 exact zag rfl
end
end
section
open Go.RowKit
theorem zvv {α β : Type} {nf : α → β} {xs ys : List α} {i : Nat} {x y : α} (h : xs.map nf = ys.map nf) (hx : xs[i]? = some x) (hy : ys[i]? = some y) : nf x = nf y := by
 have := congrArg (fun l : List β => l[i]?) h
 simpa [hx, hy] using this
theorem map_take {α β : Type} {nf : α → β} {xs : List α} {i : Nat} {x : α} (hx : xs[i]? = some x) : (xs.take (i + 1)).map nf = (xs.take i).map nf ++ [nf x] := by
 rw [List.take_add_one, hx, List.map_append]
 rfl
theorem zoU {α β : Type} {nf : α → β} {xs ys : List α} (h : ¬ xs.length = ys.length) : ¬ xs.map nf = ys.map nf := fun e => h (by have := congrArg List.length e; simpa using this)
theorem zvw : ziZ Tryz.prog 23 .u8 32 := (zhT zah 23).1
theorem zvx : StrT Tryz.prog 69 [some .u64, none] := ⟨by kernel_rfl, by kernel_rfl, by kernel_rfl, zhE zvw (by kernel_rfl)⟩
section
variable {X : List Nat} {w : World}
def zcx (xs ys : List Int) : Bool := decide (xs.map (fun z : Int => z) = ys.map (fun z : Int => z))
def zfL (xs ys : List (List Nat)) : Bool := decide (xs.map za1 = ys.map za1)
def zfd (xs ys : List (Nat × List Nat)) : Bool := decide (xs.map (fun z : Nat × List Nat => (z.1, za1 z.2)) = ys.map (fun z : Nat × List Nat => (z.1, za1 z.2)))
end
end
section
open Go.RowKit
def zdM {α : Type} (p : α → α → Bool) : List α → List α → Bool
 | [], [] => true
 | a :: l, b :: m => p a b && zdM p l m
 | _, _ => false
theorem ziO {α : Type} {p : α → α → Bool} : ∀ {xs ys : List α}, ¬ xs.length = ys.length → zdM p xs ys = false
 | [], [], h => absurd rfl h
 | a :: l, b :: m, h => by
  unfold zdM
  rw [ziO (fun e => h (by simp [e])), Bool.and_false]
 | [], _ :: _, _ => rfl
 | _ :: _, [], _ => rfl
theorem zjB {α : Type} {p : α → α → Bool} {xs ys : List α} {i : Nat} {x y : α} (hx : xs[i]? = some x) (hy : ys[i]? = some y) : zdM p (xs.drop i) (ys.drop i) = (p x y && zdM p (xs.drop (i + 1)) (ys.drop (i + 1))) := by
 obtain ⟨h1, rfl⟩ := List.getElem?_eq_some_iff.1 hx
 obtain ⟨h2, rfl⟩ := List.getElem?_eq_some_iff.1 hy
 rw [List.drop_eq_getElem_cons h1, List.drop_eq_getElem_cons h2]
 rfl
def zbR (a b : Rat) : Bool := decide (za1 a.chain = za1 b.chain) && (((a.gen : Int) == (b.gen : Int)) && zfd a.left b.left)
section
variable {X : List Nat} {w : World}
end
end
section
open Go.RowKit
def zcy (i j : List Int) (l m : List (List Int)) : Bool := zcx i j && zdM zcx l m
def zc0 (a b : Tre) : Bool := (a.kd == b.kd) && (zcy a.ids b.ids a.ls b.ls && zfL a.ps b.ps)
def zCc (e : Epo) : List Chunk := [.one (.int .u64 ((e.n : Nat) : Int)), .key e.init, .key e.app, .key e.confirm, .key e.member, .key e.hash]
def zkV (a b : Epo) : Bool := zwf (zCc a) (zCc b)
def zbB (a b : Mem) : Bool := zc0 a.t b.t && ((a.id == b.id) && (decide (za1 a.leaf = za1 b.leaf) && (decide (za1 a.ahead = za1 b.ahead) && (zfL a.secrets b.secrets && (zkV a.e b.e && zdM zbR a.chains b.chains)))))
theorem zzz : StrT Tryz.prog 34 [some .u64, none, none, none, none, none] := ⟨by kernel_rfl, by kernel_rfl, by kernel_rfl, zhE zvw (by kernel_rfl)⟩
section
variable {X : List Nat} {w : World}
end
end
section
open Go.RowKit
section
variable {X : List Nat} {w : World}
theorem zqY (xs ys : List Int) (q1 q2 : Qd) (hX : ∀ k ∈ X, k < w.heap.size) (h1 : St (SlQ zaF xs q1) w X) (h2 : St (SlQ zaF ys q2) w X) :
  Ct Tryz.prog 96 [.slice q1.1 xs.length q1.2, .slice q2.1 ys.length q2.2] X w (za4 (zcx xs ys)) [] [] := by
 have hbig := SlQ.big h1
 refine vFn (k0 := 2) (rs := [.tmp 4]) (svs := [.a (.s (.p (.hd 0 xs.length))), .a (.s (.p (.hd 1 ys.length)))]) (R0 := [.sl 0 xs.length (SlF zaF xs), .sl 1 ys.length (SlF zaF ys)]) (hnQ [q1, q2]) Tryz.ntmps96 Tryz.func96 rfl rfl rfl rfl rfl zah (by kernel_rfl) hX (fun r hr => by
  rcases List.mem_cons.1 hr with rfl | hr
  ·exact h1
  ·rcases List.mem_singleton.1 hr with rfl; exact h2) ?_
 conv => whnf
 refine vIf (fun hc => ?_) fun hc => ?_
 ·have hne : ¬ xs.length = ys.length := by
   have : (((xs.length : Nat) : Int) != ((ys.length : Nat) : Int)) = true := hc
   have := bne_iff_ne.1 this
   omega
  rw [show zcx xs ys = false from decide_eq_false (zoU hne)]
  conv => whnf
  exact zag rfl
 have hle : xs.length = ys.length := by
  have : (((xs.length : Nat) : Int) != ((ys.length : Nat) : Int)) = false := hc
  have := bne_eq_false_iff_eq.1 this
  omega
 conv => whnf
 refine ⟨Nat, fun k l m R i => ⟨k, (13, zam .i64 i) :: zaC [0, 1, 12] l, m, R⟩, fun i => i ≤ xs.length ∧ (xs.take i).map (fun z : Int => z) = (ys.take i).map (fun z : Int => z), fun i => xs.length - i, ⟨0, [], [0, 1], ⟨Nat.zero_le _, rfl⟩, zaE⟩, fun i hg => ?_⟩
 obtain ⟨hi, heq⟩ : i ≤ xs.length ∧ (xs.take i).map (fun z : Int => z) = (ys.take i).map (fun z : Int => z) := hg
 conv => whnf
 refine vIf (fun hc => ?_) fun hc => ?_
 ·have hi2 : i < xs.length := by
   have : (i : Int) < ((xs.length : Nat) : Int) := of_decide_eq_true hc
   omega
  obtain ⟨x, hx⟩ : ∃ x, xs[i]? = some x := ⟨_, jP hi2⟩
  obtain ⟨y, hy⟩ : ∃ y, ys[i]? = some y := ⟨_, jP (by omega)⟩
  conv => whnf
  refine zas 8 [] (by kernel_rfl) ?_
  conv => whnf
  refine ⟨i, ⟨rfl, hi2, hi2⟩, ?_⟩
  conv => whnf
  refine zbD (zaR (T := zaF) (sv := zam .i64 x) 0 hx (fun _ => rfl) rfl rfl rfl (by kernel_rfl) (fun _ => .inr ⟨rfl, rfl, rfl⟩)) ?_
  conv => whnf
  refine ⟨i, ⟨rfl, by omega, by omega⟩, ?_⟩
  conv => whnf
  refine zbD (zaR (T := zaF) (sv := zam .i64 y) 1 hy (fun _ => rfl) rfl rfl rfl (by kernel_rfl) (fun _ => .inr ⟨rfl, rfl, rfl⟩)) ?_
  conv => whnf
  have bad : ¬ (fun z : Int => z) x = (fun z : Int => z) y → zcx xs ys = false := fun h => decide_eq_false fun e => h (zvv e hx hy)
  have good : (fun z : Int => z) x = (fun z : Int => z) y → (xs.take (i + 1)).map (fun z : Int => z) = (ys.take (i + 1)).map (fun z : Int => z) := fun h => by rw [map_take hx, map_take hy, heq]; exact congrArg (fun z => (ys.take i).map (fun z : Int => z) ++ [z]) h
  refine vIf (fun hc => ?_) fun hc => ?_
  ·have he : ¬ x = y := bne_iff_ne.1 hc
   rw [bad he]
   conv => whnf
   exact zag rfl
  ·have he : x = y := bne_eq_false_iff_eq.1 hc
   conv => whnf
   refine zbq (by omega) (by omega) ?_
   conv => whnf
   exact ⟨i + 1, [], [0, 1], ⟨⟨by omega, good he⟩, Nat.sub_lt_sub_left hi2 (Nat.lt_succ_self i)⟩, zaE⟩
 ·have hi3 : i = xs.length := by
   have : ¬ (i : Int) < ((xs.length : Nat) : Int) := of_decide_eq_false hc
   omega
  subst hi3
  rw [List.take_length, hle, List.take_length] at heq
  rw [show zcx xs ys = true from decide_eq_true heq]
  conv => whnf
  exact zag rfl
theorem zqZ (xs ys : List (List Nat)) (q1 q2 : Qd) (hX : ∀ k ∈ X, k < w.heap.size) (h1 : St (SlQ zb5 xs q1) w X) (h2 : St (SlQ zb5 ys q2) w X) :
  Ct Tryz.prog 39 [.slice q1.1 xs.length q1.2, .slice q2.1 ys.length q2.2] X w (za4 (zfL xs ys)) [] [] := by
 have hbig := SlQ.big h1
 refine vFn (k0 := 2) (rs := [.tmp 4]) (svs := [.a (.s (.p (.hd 0 xs.length))), .a (.s (.p (.hd 1 ys.length)))]) (R0 := [.sl 0 xs.length (SlF zb5 xs), .sl 1 ys.length (SlF zb5 ys)]) (hnQ [q1, q2]) Tryz.ntmps39 Tryz.func39 rfl rfl rfl rfl rfl zah (by kernel_rfl) hX (fun r hr => by
  rcases List.mem_cons.1 hr with rfl | hr
  ·exact h1
  ·rcases List.mem_singleton.1 hr with rfl; exact h2) ?_
 conv => whnf
 refine vIf (fun hc => ?_) fun hc => ?_
 ·have hne : ¬ xs.length = ys.length := by
   have : (((xs.length : Nat) : Int) != ((ys.length : Nat) : Int)) = true := hc
   have := bne_iff_ne.1 this
   omega
  rw [show zfL xs ys = false from decide_eq_false (zoU hne)]
  conv => whnf
  exact zag rfl
 have hle : xs.length = ys.length := by
  have : (((xs.length : Nat) : Int) != ((ys.length : Nat) : Int)) = false := hc
  have := bne_eq_false_iff_eq.1 this
  omega
 conv => whnf
 refine ⟨Nat, fun k l m R i => ⟨k, (13, zam .i64 i) :: zaC [0, 1, 12] l, m, R⟩, fun i => i ≤ xs.length ∧ (xs.take i).map za1 = (ys.take i).map za1, fun i => xs.length - i, ⟨0, [], [0, 1], ⟨Nat.zero_le _, rfl⟩, zaE⟩, fun i hg => ?_⟩
 obtain ⟨hi, heq⟩ : i ≤ xs.length ∧ (xs.take i).map za1 = (ys.take i).map za1 := hg
 conv => whnf
 refine vIf (fun hc => ?_) fun hc => ?_
 ·have hi2 : i < xs.length := by
   have : (i : Int) < ((xs.length : Nat) : Int) := of_decide_eq_true hc
   omega
  obtain ⟨x, hx⟩ : ∃ x, xs[i]? = some x := ⟨_, jP hi2⟩
  obtain ⟨y, hy⟩ : ∃ y, ys[i]? = some y := ⟨_, jP (by omega)⟩
  conv => whnf
  refine zas 8 [] (by kernel_rfl) ?_
  conv => whnf
  refine ⟨i, ⟨rfl, hi2, hi2⟩, ?_⟩
  conv => whnf
  refine zbD (zaR (T := zb5) (n := 32) (off := 0) (sub := [.key x]) (sv := .a (.agg [.key x])) 0 hx (fun _ => rfl) rfl rfl rfl (by kernel_rfl) (fun _ => .inl ⟨rfl, rfl⟩)) ?_
  conv => whnf
  refine ⟨i, ⟨rfl, by omega, by omega⟩, ?_⟩
  conv => whnf
  refine zbD (zaR (T := zb5) (n := 32) (off := 0) (sub := [.key y]) (sv := .a (.agg [.key y])) 1 hy (fun _ => rfl) rfl rfl rfl (by kernel_rfl) (fun _ => .inl ⟨rfl, rfl⟩)) ?_
  conv => whnf
  have bad : ¬ za1 x = za1 y → zfL xs ys = false := fun h => decide_eq_false fun e => h (zvv e hx hy)
  have good : za1 x = za1 y → (xs.take (i + 1)).map za1 = (ys.take (i + 1)).map za1 := fun h => by rw [map_take hx, map_take hy, heq]; exact congrArg (fun z => (ys.take i).map za1 ++ [z]) h
  refine vIf (fun hc => ?_) fun hc => ?_
  ·have he : ¬ za1 x = za1 y := by simpa using hc
   rw [bad he]
   conv => whnf
   exact zag rfl
  ·have he : za1 x = za1 y := by simpa using hc
   conv => whnf
   refine zbq (by omega) (by omega) ?_
   conv => whnf
   exact ⟨i + 1, [], [0, 1], ⟨⟨by omega, good he⟩, Nat.sub_lt_sub_left hi2 (Nat.lt_succ_self i)⟩, zaE⟩
 ·have hi3 : i = xs.length := by
   have : ¬ (i : Int) < ((xs.length : Nat) : Int) := of_decide_eq_false hc
   omega
  subst hi3
  rw [List.take_length, hle, List.take_length] at heq
  rw [show zfL xs ys = true from decide_eq_true heq]
  conv => whnf
  exact zag rfl
theorem zvy (i j : List Int) (l m : List (List Int)) (q1 q2 q3 q4 : Qd) (hX : ∀ k ∈ X, k < w.heap.size) (h1 : St (SlQ zaF i q1) w X) (h2 : St (SlQ (zcM zaF) l q2) w X) (h3 : St (SlQ zaF j q3) w X) (h4 : St (SlQ (zcM zaF) m q4) w X) :
  Ct Tryz.prog 63 [.agg (ca [.one (.slice q1.1 i.length q1.2), .one (.slice q2.1 l.length q2.2)]), .agg (ca [.one (.slice q3.1 j.length q3.2), .one (.slice q4.1 m.length q4.2)])] X w (za4 (zcy i j l m)) [] [] := by
 have hbig := SlQ.big h2
 refine vFn (k0 := 4) (rs := [.tmp 4]) (svs := [.a (.agg [.one (.p (.hd 0 i.length)), .one (.p (.hd 1 l.length))]), .a (.agg [.one (.p (.hd 2 j.length)), .one (.p (.hd 3 m.length))])]) (R0 := [.sl 0 i.length (SlF zaF i), .sl 1 l.length (SlF (zcM zaF) l), .sl 2 j.length (SlF zaF j), .sl 3 m.length (SlF (zcM zaF) m)]) (hnQ [q1, q2, q3, q4]) Tryz.ntmps63 Tryz.func63 rfl rfl rfl rfl rfl zah (by kernel_rfl) hX (fun r hr => by
  rcases List.mem_cons.1 hr with rfl | hr
  ·exact h1
  rcases List.mem_cons.1 hr with rfl | hr
  ·exact h2
  rcases List.mem_cons.1 hr with rfl | hr
  ·exact h3
  rcases List.mem_singleton.1 hr with rfl; exact h4) ?_
 conv => whnf
 refine zdk rfl rfl rfl (by kernel_rfl) (fun h X w H => zqY i j (h.r 0) (h.r 2) H.xk (H.fact 0 rfl) (H.fact 2 rfl)) rfl rfl (fun c0 => ?_) fun c0 => ?_
 case refine_2 =>
  rw [show zcy i j l m = false by unfold zcy; rw [c0]; rfl]
  conv => whnf
  exact zag rfl
 conv => whnf
 refine vIf (fun hc => ?_) fun hc => ?_
 ·have hne : ¬ l.length = m.length := by
   have : (((l.length : Nat) : Int) != ((m.length : Nat) : Int)) = true := hc
   have := bne_iff_ne.1 this
   omega
  rw [show zcy i j l m = false by unfold zcy; rw [c0, ziO hne]; rfl]
  conv => whnf
  exact zag rfl
 have hle : l.length = m.length := by
  have : (((l.length : Nat) : Int) != ((m.length : Nat) : Int)) = false := hc
  have := bne_eq_false_iff_eq.1 this
  omega
 rw [show zcy i j l m = zdM zcx l m by unfold zcy; rw [c0]; rfl]
 conv => whnf
 refine ⟨Nat, fun k l1 m1 R n => ⟨k, (24, zam .i64 n) :: zaC [2, 3, 23] l1, m1, R⟩, fun n => n ≤ l.length ∧ zdM zcx l m = zdM zcx (l.drop n) (m.drop n), fun n => l.length - n, ⟨0, [], [0, 1, 2, 3], ⟨Nat.zero_le _, rfl⟩, zaE⟩, fun n hg => ?_⟩
 obtain ⟨hi, heq⟩ : n ≤ l.length ∧ zdM zcx l m = zdM zcx (l.drop n) (m.drop n) := hg
 conv => whnf
 refine vIf (fun hc => ?_) fun hc => ?_
 ·have hi2 : n < l.length := by
   have : (n : Int) < ((l.length : Nat) : Int) := of_decide_eq_true hc
   omega
  obtain ⟨x, hx⟩ : ∃ x, l[n]? = some x := ⟨_, jP hi2⟩
  obtain ⟨y, hy⟩ : ∃ y, m[n]? = some y := ⟨_, jP (by omega)⟩
  have hst := zjB (p := zcx) hx hy
  conv => whnf
  refine zas 10 [] (by kernel_rfl) ?_
  conv => whnf
  refine ⟨n, ⟨rfl, hi2, hi2⟩, ?_⟩
  conv => whnf
  refine zaq (zmx (T := zaF) 1 hx rfl rfl rfl (by kernel_rfl)) ?_
  conv => whnf
  refine ⟨n, ⟨rfl, by omega, by omega⟩, ?_⟩
  conv => whnf
  refine zaq (zmx (T := zaF) 3 hy rfl rfl rfl (by kernel_rfl)) ?_
  conv => whnf
  refine zdk rfl rfl rfl (by kernel_rfl) (fun h X w H => zqY x y (h.r 6) (h.r 7) H.xk (H.fact 1 rfl) (H.fact 0 rfl)) rfl rfl (fun hb => ?_) fun hb => ?_
  case refine_2 =>
   rw [show zdM zcx l m = false by rw [heq, hst, hb]; rfl]
   conv => whnf
   exact zag rfl
  conv => whnf
  refine zbq (by omega) (by omega) ?_
  conv => whnf
  exact ⟨n + 1, [], [2, 3, 4, 5], ⟨⟨by omega, by rw [heq, hst, hb]; rfl⟩, Nat.sub_lt_sub_left hi2 (Nat.lt_succ_self n)⟩, zaE⟩
 ·have hi3 : n = l.length := by
   have : ¬ (n : Int) < ((l.length : Nat) : Int) := of_decide_eq_false hc
   omega
  rw [hi3, List.drop_length, hle, List.drop_length] at heq
  rw [heq]
  conv => whnf
  exact zag rfl
theorem zCd (a b : Tre) (q1 q2 q3 q4 q5 q6 : Qd) (hX : ∀ k ∈ X, k < w.heap.size) (h1 : St (SlQ zaF a.ids q1) w X) (h2 : St (SlQ (zcM zaF) a.ls q2) w X) (h3 : St (SlQ zb5 a.ps q3) w X) (h4 : St (SlQ zaF b.ids q4) w X) (h5 : St (SlQ (zcM zaF) b.ls q5) w X) (h6 : St (SlQ zb5 b.ps q6) w X) :
  Ct Tryz.prog 38 [a.val q1 q2 q3, b.val q4 q5 q6] X w (za4 (zc0 a b)) [] [] := by
 refine vFn (k0 := 6) (rs := [.tmp 4]) (svs := [.a (.agg [zdH a.kd, .one (.p (.hd 0 a.ids.length)), .one (.p (.hd 1 a.ls.length)), .one (.p (.hd 2 a.ps.length))]), .a (.agg [zdH b.kd, .one (.p (.hd 3 b.ids.length)), .one (.p (.hd 4 b.ls.length)), .one (.p (.hd 5 b.ps.length))])]) (R0 := [.sl 0 a.ids.length (SlF zaF a.ids), .sl 1 a.ls.length (SlF (zcM zaF) a.ls), .sl 2 a.ps.length (SlF zb5 a.ps), .sl 3 b.ids.length (SlF zaF b.ids), .sl 4 b.ls.length (SlF (zcM zaF) b.ls), .sl 5 b.ps.length (SlF zb5 b.ps)]) (hnQ [q1, q2, q3, q4, q5, q6]) Tryz.ntmps38 Tryz.func38 rfl rfl rfl rfl rfl zah (by kernel_rfl) hX (fun r hr => by
  rcases List.mem_cons.1 hr with rfl | hr
  ·exact h1
  rcases List.mem_cons.1 hr with rfl | hr
  ·exact h2
  rcases List.mem_cons.1 hr with rfl | hr
  ·exact h3
  rcases List.mem_cons.1 hr with rfl | hr
  ·exact h4
  rcases List.mem_cons.1 hr with rfl | hr
  ·exact h5
  rcases List.mem_singleton.1 hr with rfl; exact h6) ?_
 conv => whnf
 refine vIf (fun c0 => ?_) fun c0 => ?_
 case refine_2 =>
  have c0 : (a.kd == b.kd) = false := c0
  rw [show zc0 a b = false by unfold zc0; rw [c0]; rfl]
  conv => whnf
  exact zag rfl
 have c0 : (a.kd == b.kd) = true := c0
 conv => whnf
 refine zdk rfl rfl rfl (by kernel_rfl) (fun h X w H => zvy a.ids b.ids a.ls b.ls (h.r 0) (h.r 1) (h.r 3) (h.r 4) H.xk (H.fact 0 rfl) (H.fact 1 rfl) (H.fact 3 rfl) (H.fact 4 rfl)) rfl rfl (fun c1 => ?_) fun c1 => ?_
 case refine_2 =>
  rw [show zc0 a b = false by unfold zc0; rw [c0, c1]; rfl]
  conv => whnf
  exact zag rfl
 conv => whnf
 refine zdk rfl rfl rfl (by kernel_rfl) (fun h X w H => zqZ a.ps b.ps (h.r 2) (h.r 5) H.xk (H.fact 2 rfl) (H.fact 5 rfl)) rfl rfl (fun c2 => ?_) fun c2 => ?_
 case refine_2 =>
  rw [show zc0 a b = false by unfold zc0; rw [c0, c1, c2]; rfl]
  conv => whnf
  exact zag rfl
 conv => whnf
 rw [show zc0 a b = true by unfold zc0; rw [c0, c1, c2]; rfl]
 exact zag rfl
theorem zvz (a b : Rat) (q1 q2 : Qd) (hX : ∀ k ∈ X, k < w.heap.size) (h1 : St (SlQ zbZ a.left q1) w X) (h2 : St (SlQ zbZ b.left q2) w X) :
  Ct Tryz.prog 13 [.agg (ca (zdL.ch a q1)), .agg (ca (zdL.ch b q2))] X w (za4 (zbR a b)) [] [] := by
 have hbig := SlQ.big h1
 refine vFn (k0 := 2) (rs := [.tmp 4]) (svs := [.a (.agg [.key a.chain, .one (.p (.v (.int .u64 ((a.gen : Nat) : Int)))), .one (.p (.hd 0 a.left.length))]), .a (.agg [.key b.chain, .one (.p (.v (.int .u64 ((b.gen : Nat) : Int)))), .one (.p (.hd 1 b.left.length))])]) (R0 := [.sl 0 a.left.length (SlF zbZ a.left), .sl 1 b.left.length (SlF zbZ b.left)]) (hnQ [q1, q2]) Tryz.ntmps13 Tryz.func13 rfl rfl rfl rfl rfl zah (by kernel_rfl) hX (fun r hr => by
  rcases List.mem_cons.1 hr with rfl | hr
  ·exact h1
  ·rcases List.mem_singleton.1 hr with rfl; exact h2) ?_
 conv => whnf
 cases c1 : decide (za1 a.chain = za1 b.chain) with
 | false =>
  rw [show zbR a b = false by unfold zbR; rw [c1]; rfl]
  conv => whnf
  exact zag rfl
 | true =>
 conv => whnf
 refine vIf (fun c2 => ?_) fun c2 => ?_
 ·have c2 : (((a.gen : Nat) : Int) == ((b.gen : Nat) : Int)) = false := by
   have : (((a.gen : Nat) : Int) != ((b.gen : Nat) : Int)) = true := c2
   simpa using this
  rw [show zbR a b = false by unfold zbR; rw [c1, c2]; rfl]
  conv => whnf
  exact zag rfl
 replace c2 : (((a.gen : Nat) : Int) == ((b.gen : Nat) : Int)) = true := by
  have : (((a.gen : Nat) : Int) != ((b.gen : Nat) : Int)) = false := c2
  simpa using this
 rw [show zbR a b = zfd a.left b.left by unfold zbR; rw [c1, c2]; rfl]
 conv => whnf
 refine vIf (fun hc => ?_) fun hc => ?_
 ·have hne : ¬ a.left.length = b.left.length := by
   have : (((a.left.length : Nat) : Int) != ((b.left.length : Nat) : Int)) = true := hc
   have := bne_iff_ne.1 this
   omega
  rw [show zfd a.left b.left = false from decide_eq_false (zoU hne)]
  conv => whnf
  exact zag rfl
 have hle : a.left.length = b.left.length := by
  have : (((a.left.length : Nat) : Int) != ((b.left.length : Nat) : Int)) = false := hc
  have := bne_eq_false_iff_eq.1 this
  omega
 conv => whnf
 refine ⟨Nat, fun k l m R i => ⟨k, (30, zam .i64 i) :: zaC [2, 3, 29] l, m, R⟩, fun i => i ≤ a.left.length ∧ (a.left.take i).map (fun z : Nat × List Nat => (z.1, za1 z.2)) = (b.left.take i).map (fun z : Nat × List Nat => (z.1, za1 z.2)), fun i => a.left.length - i, ⟨0, [], [0, 1], ⟨Nat.zero_le _, rfl⟩, zaE⟩, fun i hg => ?_⟩
 obtain ⟨hi, heq⟩ := hg
 conv => whnf
 refine vIf (fun hc => ?_) fun hc => ?_
 ·have hi2 : i < a.left.length := by
   have : (i : Int) < ((a.left.length : Nat) : Int) := of_decide_eq_true hc
   omega
  obtain ⟨x, hx⟩ : ∃ x, a.left[i]? = some x := ⟨_, jP hi2⟩
  obtain ⟨y, hy⟩ : ∃ y, b.left[i]? = some y := ⟨_, jP (by omega)⟩
  conv => whnf
  refine zas 10 [] (by kernel_rfl) ?_
  conv => whnf
  refine ⟨i, ⟨rfl, hi2, hi2⟩, ?_⟩
  conv => whnf
  refine zbD (zaR (T := zbZ) (n := 33) (off := 0) (sub := [.one (.int .u64 ((x.1 : Nat) : Int)), .key x.2]) (sv := .a (.agg [.one (.p (.v (.int .u64 ((x.1 : Nat) : Int)))), .key x.2])) 0 hx (fun _ => rfl) rfl rfl rfl (by kernel_rfl) (fun _ => .inl ⟨rfl, rfl⟩)) ?_
  conv => whnf
  refine ⟨i, ⟨rfl, by omega, by omega⟩, ?_⟩
  conv => whnf
  refine zbD (zaR (T := zbZ) (n := 33) (off := 0) (sub := [.one (.int .u64 ((y.1 : Nat) : Int)), .key y.2]) (sv := .a (.agg [.one (.p (.v (.int .u64 ((y.1 : Nat) : Int)))), .key y.2])) 1 hy (fun _ => rfl) rfl rfl rfl (by kernel_rfl) (fun _ => .inl ⟨rfl, rfl⟩)) ?_
  conv => whnf
  have bad : ¬ (x.1, za1 x.2) = (y.1, za1 y.2) → zfd a.left b.left = false := fun h => decide_eq_false fun e => h (zvv e hx hy)
  have good : (x.1, za1 x.2) = (y.1, za1 y.2) → (a.left.take (i + 1)).map (fun z : Nat × List Nat => (z.1, za1 z.2)) = (b.left.take (i + 1)).map (fun z : Nat × List Nat => (z.1, za1 z.2)) := fun h => by rw [map_take hx, map_take hy, heq]; exact congrArg (fun z => (b.left.take i).map (fun z : Nat × List Nat => (z.1, za1 z.2)) ++ [z]) h
  have ev : zwf (zbZ.ch x ()) (zbZ.ch y ()) = (((x.1 : Int) == (y.1 : Int)) && (decide (za1 x.2 = za1 y.2) && true)) := rfl
  cases hb : zwf (zbZ.ch x ()) (zbZ.ch y ()) with
  | false =>
   have he : ¬ ((x.1, za1 x.2) = (y.1, za1 y.2)) := fun e => by
    have h1 := congrArg Prod.fst e
    have h2 := congrArg Prod.snd e
    simp only at h1 h2
    rw [ev, h1, decide_eq_true h2] at hb
    simp at hb
   rw [bad he]
   refine zof (za4 true) (fun h w => zkE hb zvx ⟨rfl, trivial⟩ ⟨rfl, trivial⟩ rfl rfl rfl) rfl rfl ?_
   conv => whnf
   exact zag rfl
  | true =>
   have he : (x.1, za1 x.2) = (y.1, za1 y.2) := by
    rw [ev] at hb
    simp at hb
    exact Prod.ext (by omega) hb.2
   refine zof (za4 false) (fun h w => zkE hb zvx ⟨rfl, trivial⟩ ⟨rfl, trivial⟩ rfl rfl rfl) rfl rfl ?_
   conv => whnf
   refine zbq (by omega) (by omega) ?_
   conv => whnf
   exact ⟨i + 1, [], [0, 1], ⟨⟨by omega, good he⟩, Nat.sub_lt_sub_left hi2 (Nat.lt_succ_self i)⟩, zaE⟩
 ·have hi3 : i = a.left.length := by
   have : ¬ (i : Int) < ((a.left.length : Nat) : Int) := of_decide_eq_false hc
   omega
  subst hi3
  rw [List.take_length, hle, List.take_length] at heq
  rw [show zfd a.left b.left = true from decide_eq_true heq]
  conv => whnf
  exact zag rfl
theorem zCe (a b : Mem) {q1 q2 q3 q4 q5 p1 p2 p3 p4 p5 : Qd} (hX : ∀ k ∈ X, k < w.heap.size) (ha : a.at_ q1 q2 q3 q4 q5 w X) (hb : b.at_ p1 p2 p3 p4 p5 w X) :
  Ct Tryz.prog 14 [a.val q1 q2 q3 q4 q5, b.val p1 p2 p3 p4 p5] X w (za4 (zbB a b)) [] [] := by
 have hbig := SlQ.big ha.chains
 refine vFn (k0 := 10) (rs := [.tmp 4]) (svs := [.a (zqU a 0), .a (zqU b 5)]) (R0 := zqV a 0 ++ zqV b 5) (hnQ [q1, q2, q3, q4, q5, p1, p2, p3, p4, p5]) Tryz.ntmps14 Tryz.func14 rfl rfl rfl rfl rfl zah (by kernel_rfl) hX (fun r hr => by
  rcases List.mem_cons.1 hr with rfl | hr
  ·exact ha.ids
  rcases List.mem_cons.1 hr with rfl | hr
  ·exact ha.ls
  rcases List.mem_cons.1 hr with rfl | hr
  ·exact ha.ps
  rcases List.mem_cons.1 hr with rfl | hr
  ·exact ha.secrets
  rcases List.mem_cons.1 hr with rfl | hr
  ·exact ha.chains
  rcases List.mem_cons.1 hr with rfl | hr
  ·exact hb.ids
  rcases List.mem_cons.1 hr with rfl | hr
  ·exact hb.ls
  rcases List.mem_cons.1 hr with rfl | hr
  ·exact hb.ps
  rcases List.mem_cons.1 hr with rfl | hr
  ·exact hb.secrets
  rcases List.mem_singleton.1 hr with rfl; exact hb.chains) ?_
 conv => whnf
 refine zdk rfl rfl rfl (by kernel_rfl) (fun h X w H => zCd a.t b.t (h.r 0) (h.r 1) (h.r 2) (h.r 5) (h.r 6) (h.r 7) H.xk (H.fact 0 rfl) (H.fact 1 rfl) (H.fact 2 rfl) (H.fact 5 rfl) (H.fact 6 rfl) (H.fact 7 rfl)) rfl rfl (fun c0 => ?_) fun c0 => ?_
 case refine_2 =>
  rw [show zbB a b = false by unfold zbB; rw [c0]; rfl]
  conv => whnf
  exact zag rfl
 conv => whnf
 refine vIf (fun c1 => ?_) fun c1 => ?_
 ·have c1 : (a.id == b.id) = false := by
   have : (a.id != b.id) = true := c1
   simpa using this
  rw [show zbB a b = false by unfold zbB; rw [c0, c1]; rfl]
  conv => whnf
  exact zag rfl
 replace c1 : (a.id == b.id) = true := by
  have : (a.id != b.id) = false := c1
  simpa using this
 conv => whnf
 refine vIf (fun c2 => ?_) fun c2 => ?_
 ·have c2 : decide (za1 a.leaf = za1 b.leaf) = false := by
   have : (!decide (za1 a.leaf = za1 b.leaf)) = true := c2
   simpa using this
  rw [show zbB a b = false by unfold zbB; rw [c0, c1, c2]; rfl]
  conv => whnf
  exact zag rfl
 replace c2 : decide (za1 a.leaf = za1 b.leaf) = true := by
  have : (!decide (za1 a.leaf = za1 b.leaf)) = false := c2
  simpa using this
 conv => whnf
 refine vIf (fun c3 => ?_) fun c3 => ?_
 ·have c3 : decide (za1 a.ahead = za1 b.ahead) = false := by
   have : (!decide (za1 a.ahead = za1 b.ahead)) = true := c3
   simpa using this
  rw [show zbB a b = false by unfold zbB; rw [c0, c1, c2, c3]; rfl]
  conv => whnf
  exact zag rfl
 replace c3 : decide (za1 a.ahead = za1 b.ahead) = true := by
  have : (!decide (za1 a.ahead = za1 b.ahead)) = false := c3
  simpa using this
 conv => whnf
 refine zdk rfl rfl rfl (by kernel_rfl) (fun h X w H => zqZ a.secrets b.secrets (h.r 3) (h.r 8) H.xk (H.fact 3 rfl) (H.fact 8 rfl)) rfl rfl (fun c4 => ?_) fun c4 => ?_
 case refine_2 =>
  rw [show zbB a b = false by unfold zbB; rw [c0, c1, c2, c3, c4]; rfl]
  conv => whnf
  exact zag rfl
 conv => whnf
 cases c5 : zkV a.e b.e with
 | false =>
  rw [show zbB a b = false by unfold zbB; rw [c0, c1, c2, c3, c4, c5]; rfl]
  refine zof (za4 true) (fun h w => zkE c5 zzz ⟨rfl, trivial⟩ ⟨rfl, trivial⟩ rfl rfl rfl) rfl rfl ?_
  conv => whnf
  exact zag rfl
 | true =>
 refine zof (za4 false) (fun h w => zkE c5 zzz ⟨rfl, trivial⟩ ⟨rfl, trivial⟩ rfl rfl rfl) rfl rfl ?_
 conv => whnf
 refine vIf (fun hc => ?_) fun hc => ?_
 ·have hne : ¬ a.chains.length = b.chains.length := by
   have : (((a.chains.length : Nat) : Int) != ((b.chains.length : Nat) : Int)) = true := hc
   have := bne_iff_ne.1 this
   omega
  rw [show zbB a b = false by unfold zbB; rw [c0, c1, c2, c3, c4, c5, ziO hne]; rfl]
  conv => whnf
  exact zag rfl
 have hle : a.chains.length = b.chains.length := by
  have : (((a.chains.length : Nat) : Int) != ((b.chains.length : Nat) : Int)) = false := hc
  have := bne_eq_false_iff_eq.1 this
  omega
 rw [show zbB a b = zdM zbR a.chains b.chains by unfold zbB; rw [c0, c1, c2, c3, c4, c5]; rfl]
 conv => whnf
 refine ⟨Nat, fun k l m R i => ⟨k, (60, zam .i64 i) :: zaC [2, 3, 59] l, m, R⟩, fun i => i ≤ a.chains.length ∧ zdM zbR a.chains b.chains = zdM zbR (a.chains.drop i) (b.chains.drop i), fun i => a.chains.length - i, ⟨0, [], [0, 1, 2, 3, 4, 5, 6, 7, 8, 9], ⟨Nat.zero_le _, rfl⟩, zaE⟩, fun i hg => ?_⟩
 obtain ⟨hi, heq⟩ : i ≤ a.chains.length ∧ zdM zbR a.chains b.chains = zdM zbR (a.chains.drop i) (b.chains.drop i) := hg
 conv => whnf
 refine vIf (fun hc => ?_) fun hc => ?_
 ·have hi2 : i < a.chains.length := by
   have : (i : Int) < ((a.chains.length : Nat) : Int) := of_decide_eq_true hc
   omega
  obtain ⟨x, hx⟩ : ∃ x, a.chains[i]? = some x := ⟨_, jP hi2⟩
  obtain ⟨y, hy⟩ : ∃ y, b.chains[i]? = some y := ⟨_, jP (by omega)⟩
  have hst := zjB (p := zbR) hx hy
  conv => whnf
  refine zas 10 [] (by kernel_rfl) ?_
  conv => whnf
  refine ⟨i, ⟨rfl, hi2, hi2⟩, ?_⟩
  conv => whnf
  refine zaq (zdF ziN (x := x) (n := 34) (off := 0) (sub := [.key x.chain, .one (.p (.v (.int .u64 ((x.gen : Nat) : Int)))), .one (.p (.hd 12 x.left.length))]) (Rs := [.sl 12 x.left.length (SlF zbZ x.left)]) 4 (fun μ => [μ]) 1 hx rfl rfl rfl (by kernel_rfl) (.inl ⟨rfl, rfl⟩) (fun μ h hh => by
   have e : h.r 12 = μ := hh 0 (by omega)
   subst e
   rfl) fun μ h w Y hh hn r hr => by
    have e : h.r 12 = μ := hh 0 (by omega)
    rcases List.mem_singleton.1 hr with rfl
    subst e
    exact hn) ?_
  conv => whnf
  refine ⟨i, ⟨rfl, by omega, by omega⟩, ?_⟩
  conv => whnf
  refine zaq (zdF ziN (x := y) (n := 34) (off := 0) (sub := [.key y.chain, .one (.p (.v (.int .u64 ((y.gen : Nat) : Int)))), .one (.p (.hd 13 y.left.length))]) (Rs := [.sl 13 y.left.length (SlF zbZ y.left)]) 9 (fun μ => [μ]) 1 hy rfl rfl rfl (by kernel_rfl) (.inl ⟨rfl, rfl⟩) (fun μ h hh => by
   have e : h.r 13 = μ := hh 0 (by omega)
   subst e
   rfl) fun μ h w Y hh hn r hr => by
    have e : h.r 13 = μ := hh 0 (by omega)
    rcases List.mem_singleton.1 hr with rfl
    subst e
    exact hn) ?_
  conv => whnf
  refine zdk rfl rfl rfl (by kernel_rfl) (fun h X w H => zvz x y (h.r 12) (h.r 13) H.xk (H.fact 1 rfl) (H.fact 0 rfl)) rfl rfl (fun hb => ?_) fun hb => ?_
  case refine_2 =>
   rw [show zdM zbR a.chains b.chains = false by rw [heq, hst, hb]; rfl]
   conv => whnf
   exact zag rfl
  conv => whnf
  refine zbq (by omega) (by omega) ?_
  conv => whnf
  exact ⟨i + 1, [], [2, 3, 4, 5, 6, 7, 8, 9, 10, 11], ⟨⟨by omega, by rw [heq, hst, hb]; rfl⟩, Nat.sub_lt_sub_left hi2 (Nat.lt_succ_self i)⟩, zaE⟩
 ·have hi3 : i = a.chains.length := by
   have : ¬ (i : Int) < ((a.chains.length : Nat) : Int) := of_decide_eq_false hc
   omega
  rw [hi3, List.drop_length, hle, List.drop_length] at heq
  rw [heq]
  conv => whnf
  exact zag rfl
end
end
section
open Go.RowKit
def znE (ids : List Int) (i : Nat) : Bool := decide (0 < i) && decide (ids.getD (i - 1) 0 ≥ ids.getD i 0)
theorem zoV {ids : List Int} {i : Nat} {x : Int} (h : ids[i]? = some x) : ids.getD i 0 = x := by rw [jR, h]; rfl
theorem znF {ids : List Int} {ls : List (List Int)} {x : Int} (hx : x ∈ ids) (h : zjf x = true) : zbp ids ls = false := by
 have : ids.any zjf = true := List.any_eq_true.2 ⟨x, hx, h⟩
 simp [zbp, this]
theorem zrT {ids : List Int} {ls : List (List Int)} {i : Nat} (hi : i < ids.length) (h : znE ids i = true) : zbp ids ls = false := by
 have : zey ids = false := by
  unfold zey
  rw [List.all_eq_false]
  refine ⟨i, List.mem_range.2 hi, ?_⟩
  unfold znE at h
  rw [h]
  decide
 simp [zbp, this]
theorem zvA {ids : List Int} {ls : List (List Int)} (h1 : ids.length ≤ 1000) (h : ∀ j, j < ids.length → zjf (ids.getD j 0) = false ∧ znE ids j = false) : zbp ids ls = zbz ids.length ls := by
 have ha : ids.any zjf = false := by
  rw [List.any_eq_false]
  intro x hx hf
  obtain ⟨j, hj, rfl⟩ := List.getElem_of_mem hx
  have := (h j hj).1
  rw [zoV (jP hj), hf] at this
  cases this
 have hr : zey ids = true := by
  unfold zey
  rw [List.all_eq_true]
  intro j hj
  have := (h j (List.mem_range.1 hj)).2
  unfold znE at this
  rw [this]
  rfl
 simp [zbp, h1, ha, hr]
def zGw (b : Bool) : Int := if b then 0 else 1
theorem zq0 {x : List Int} {j : Nat} {n : Int} (h : x[j]? = some n) : (x.take (j + 1)).sum = (x.take j).sum + n := by rw [List.take_add_one, h, List.sum_append]; simp
section
variable {X : List Nat} {w : World} {gt : Nat → Nat}
theorem znG (hX : ∀ k ∈ X, k < w.heap.size) (ids : List Int) (ls : List (List Int)) (q p : Qd) (hq : St (SlQ zaF ids q) w X) (hp : St (SlQ (zcM zaF) ls p) w X) (hlen : ∀ l ∈ ls, l.length ≤ 1099511627776) :
  Ct Tryz.prog 109 [.agg (ca [.one (.slice q.1 ids.length q.2), .one (.slice p.1 ls.length p.2)])] X w (zam .i64 (zGw (zbp ids ls))) [] [] := by
 have hbig := SlQ.big hq
 have hbig2 := SlQ.big hp
 refine vFn (k0 := 2) (rs := [.tmp 2]) (svs := [.a (.agg [.one (.p (.hd 0 ids.length)), .one (.p (.hd 1 ls.length))])]) (R0 := [.sl 0 ids.length (SlF zaF ids), .sl 1 ls.length (SlF (zcM zaF) ls)]) (hnQ [q, p]) Tryz.ntmps109 Tryz.func109 rfl rfl rfl rfl rfl zah (by kernel_rfl) hX (fun r hr => by rcases List.mem_cons.1 hr with rfl | hr; exact hq; rcases List.mem_singleton.1 hr with rfl; exact hp) ?_
 conv => whnf
 refine vIf (fun h1 => ?_) fun h1 => ?_
 ·have : ¬ ids.length ≤ 1000 := by simp [Sl.len] at h1; omega
  rw [show zbp ids ls = false by simp [zbp, this]]
  conv => whnf
  exact zag rfl
 have h1 : ids.length ≤ 1000 := by simp [Sl.len] at h1; omega
 conv => whnf
 refine ⟨Nat, fun k l m R i => ⟨k, (18, zam .i64 i) :: zaC [1, 16, 17] l, m, R⟩, fun i => i ≤ ids.length ∧ ∀ j, j < i → zjf (ids.getD j 0) = false ∧ znE ids j = false, fun i => ids.length - i, ⟨0, [], [0, 1], ⟨Nat.zero_le _, fun j hj => absurd hj (Nat.not_lt_zero _)⟩, zaE⟩, fun i hφ => ?_⟩
 obtain ⟨hi, hφ⟩ := hφ
 conv => whnf
 refine vIf (fun h => ?_) fun h => ?_
 ·have hi2 : i < ids.length := by simpa [Sl.len] using h
  obtain ⟨x, hx⟩ : ∃ x, ids[i]? = some x := ⟨_, jP hi2⟩
  have hxd := zoV hx
  have hxm := List.mem_of_getElem? hx
  conv => whnf
  refine ⟨i, ⟨rfl, hi2, hi2⟩, ?_⟩
  conv => whnf
  refine za8 (zaR (T := zaF) (sv := zam .i64 x) 0 hx (fun _ => rfl) rfl rfl rfl (by kernel_rfl) (fun _ => .inr ⟨rfl, rfl, rfl⟩)) rfl rfl ?_
  conv => whnf
  refine vIf (fun f1 => ?_) fun f1 => ?_
  ·have f1 : decide (x < 0) = true := f1
   rw [znF hxm (by unfold zjf; rw [f1]; rfl)]
   conv => whnf
   exact zag rfl
  have f1 : decide (x < 0) = false := f1
  conv => whnf
  refine vIf (fun f2 => ?_) fun f2 => ?_
  ·have f2 : decide (x > 1048576) = true := f2
   rw [znF hxm (by unfold zjf; rw [f1, f2]; rfl)]
   conv => whnf
   exact zag rfl
  have f2 : decide (x > 1048576) = false := f2
  have hfar : zjf (ids.getD i 0) = false := by rw [hxd]; unfold zjf; rw [f1, f2]; rfl
  conv => whnf
  refine vIf (fun h0 => ?_) fun h0 => ?_
  ·have h0 : 0 < i := by simpa using h0
   obtain ⟨y, hy⟩ : ∃ y, ids[i - 1]? = some y := ⟨_, jP (by omega)⟩
   have hyd := zoV hy
   conv => whnf
   refine zbq (by omega) (by omega) ?_
   conv => whnf
   refine ⟨i - 1, ⟨by omega, by omega, by omega⟩, ?_⟩
   conv => whnf
   refine za8 (zaR (T := zaF) (sv := zam .i64 y) 0 hy (fun _ => rfl) rfl rfl rfl (by kernel_rfl) (fun _ => .inr ⟨rfl, rfl, rfl⟩)) rfl rfl ?_
   conv => whnf
   refine vIf (fun hc => ?_) fun hc => ?_
   ·have hc : decide (y ≥ x) = true := hc
    rw [zrT hi2 (by unfold znE; rw [hxd, hyd, hc, decide_eq_true h0]; rfl)]
    conv => whnf
    exact zag rfl
   ·have hc : decide (y ≥ x) = false := hc
    conv => whnf
    refine zbq (by omega) (by omega) ?_
    conv => whnf
    refine ⟨i + 1, [], [0, 1], ⟨⟨by omega, fun j hj => ?_⟩, Nat.sub_lt_sub_left hi2 (Nat.lt_succ_self i)⟩, zaE⟩
    by_cases e : j = i
    ·subst e
     exact ⟨hfar, by unfold znE; rw [hxd, hyd, hc, Bool.and_false]⟩
    ·exact hφ j (by omega)
  ·have h0 : ¬ 0 < i := by simpa using h0
   conv => whnf
   refine zbq (by omega) (by omega) ?_
   conv => whnf
   refine ⟨i + 1, [], [0, 1], ⟨⟨by omega, fun j hj => ?_⟩, Nat.sub_lt_sub_left hi2 (Nat.lt_succ_self i)⟩, zaE⟩
   by_cases e : j = i
   ·subst e
    exact ⟨hfar, by unfold znE; rw [decide_eq_false h0]; rfl⟩
   ·exact hφ j (by omega)
 have hi : i = ids.length := by
   have : ¬ i < ids.length := by simpa [Sl.len] using h
   omega
 subst hi
 rw [zvA h1 hφ]
 conv => whnf
 refine ⟨Nat × Nat, fun k l m R g => ⟨k, (50, zam .i64 g.1) :: (5, zam .i64 g.2) :: zaC [48, 49] l, m, R⟩, fun g => g.1 ≤ ls.length ∧ g.2 ≤ 9223372036854775807 ∧ zbz ids.length ls = zbz g.2 (ls.drop g.1), fun g => ls.length - g.1, ⟨(0, ids.length), [], [0, 1], ⟨Nat.zero_le _, by omega, rfl⟩, zaE⟩, fun g hg => ?_⟩
 obtain ⟨i, many⟩ := g
 obtain ⟨hi, hm, hs⟩ : i ≤ ls.length ∧ many ≤ 9223372036854775807 ∧ zbz ids.length ls = zbz many (ls.drop i) := hg
 conv => whnf
 refine vIf (fun h => ?_) fun h => ?_
 ·have hj : i < ls.length := by simpa [Sl.len] using h
  obtain ⟨x, hx⟩ : ∃ x, ls[i]? = some x := ⟨_, jP hj⟩
  have hl := hlen x (List.mem_of_getElem? hx)
  rw [List.drop_eq_getElem_cons hj, (List.getElem?_eq_some_iff.1 hx).2, zbz] at hs
  conv => whnf
  refine ⟨i, ⟨rfl, hj, hj⟩, ?_⟩
  conv => whnf
  refine zew (zmx (T := zaF) 1 hx rfl rfl rfl (by kernel_rfl)) rfl rfl ?_
  conv => whnf
  refine ⟨Nat × Int, fun k l m R g => ⟨k, (56, zam .i64 g.1) :: (8, zam .i64 g.2) :: zaC [5, 7, 48, 49, 50, 54, 55] l, m, R⟩, fun g => g.1 ≤ x.length ∧ (x.take g.1).any zpH = false ∧ g.2 = (x.take g.1).sum, fun g => x.length - g.1, ⟨(0, 0), [], [0, 1, 2], ⟨Nat.zero_le _, rfl, rfl⟩, zaE⟩, fun g hg => ?_⟩
  obtain ⟨j, sm⟩ := g
  obtain ⟨hj2, hodd, hsm⟩ : j ≤ x.length ∧ (x.take j).any zpH = false ∧ sm = (x.take j).sum := hg
  have hb := zyW (ztd hodd)
  rw [← hsm, List.length_take] at hb
  conv => whnf
  refine vIf (fun h => ?_) fun h => ?_
  ·have hj3 : j < x.length := by simpa [Sl.len] using h
   obtain ⟨n, hn⟩ : ∃ n, x[j]? = some n := ⟨_, jP hj3⟩
   have hnm := List.mem_of_getElem? hn
   conv => whnf
   refine ⟨j, ⟨rfl, hj3, hj3⟩, ?_⟩
   conv => whnf
   refine za8 (zaR (T := zaF) (sv := zam .i64 n) 0 hn (fun _ => rfl) rfl rfl rfl (by kernel_rfl) (fun _ => .inr ⟨rfl, rfl, rfl⟩)) rfl rfl ?_
   conv => whnf
   refine vIf (fun f1 => ?_) fun f1 => ?_
   ·have f1 := bne_iff_ne.1 (show (n != 2) = true from f1)
    conv => whnf
    refine vIf (fun f2 => ?_) fun f2 => ?_
    ·have f2 := bne_iff_ne.1 (show (n != 3) = true from f2)
     have ho : x.any zpH = true := List.any_eq_true.2 ⟨n, hnm, by unfold zpH; simp; omega⟩
     rw [show zbz ids.length ls = false by rw [hs, ho]; simp]
     conv => whnf
     exact zag rfl
    ·have f2 := bne_eq_false_iff_eq.1 (show (n != 3) = false from f2)
     have hnn : n = 2 ∨ n = 3 := .inr f2
     conv => whnf
     refine zbq (by omega) (by omega) ?_
     conv => whnf
     refine zbq (by omega) (by omega) ?_
     conv => whnf
     exact ⟨(j + 1, sm + n), [], [0, 1, 2], ⟨⟨hj3, by rw [List.take_add_one, hn, List.any_append, hodd]; unfold zpH; rcases hnn with rfl | rfl <;> rfl, by show sm + n = _; rw [zq0 hn, hsm]⟩, Nat.sub_lt_sub_left hj3 (Nat.lt_succ_self j)⟩, zaE⟩
   ·have f1 := bne_eq_false_iff_eq.1 (show (n != 2) = false from f1)
    have hnn : n = 2 ∨ n = 3 := .inl f1
    conv => whnf
    refine zbq (by omega) (by omega) ?_
    conv => whnf
    refine zbq (by omega) (by omega) ?_
    conv => whnf
    exact ⟨(j + 1, sm + n), [], [0, 1, 2], ⟨⟨hj3, by rw [List.take_add_one, hn, List.any_append, hodd]; unfold zpH; rcases hnn with rfl | rfl <;> rfl, by show sm + n = _; rw [zq0 hn, hsm]⟩, Nat.sub_lt_sub_left hj3 (Nat.lt_succ_self j)⟩, zaE⟩
  ·have hj3 : j = x.length := by
    have : ¬ j < x.length := by simpa [Sl.len] using h
    omega
   subst hj3
   rw [List.take_length] at hodd hsm
   subst hsm
   conv => whnf
   refine vIf (fun f1 => ?_) fun f1 => ?_
   ·have f1 := bne_iff_ne.1 (show (x.sum != ((many : Nat) : Int)) = true from f1)
    rw [show zbz ids.length ls = false by rw [hs, decide_eq_false f1]; simp]
    conv => whnf
    exact zag rfl
   have f1 := bne_eq_false_iff_eq.1 (show (x.sum != ((many : Nat) : Int)) = false from f1)
   conv => whnf
   refine vIf (fun f2 => ?_) fun f2 => ?_
   ·have f2 : decide (many < 2) = true := by
     have : ((many : Nat) : Int) < 2 := of_decide_eq_true f2
     exact decide_eq_true (by omega)
    rw [show zbz ids.length ls = false by rw [hs, f2]; simp]
    conv => whnf
    exact zag rfl
   have f2 : decide (many < 2) = false := by
     have : ¬ ((many : Nat) : Int) < 2 := of_decide_eq_false f2
     exact decide_eq_false (by omega)
   conv => whnf
   refine zbq (by omega) (by omega) ?_
   conv => whnf
   exact ⟨(i + 1, x.length), [], [1, 2], ⟨⟨hj, by omega, by rw [hs, f2, hodd, decide_eq_true f1]; rfl⟩, Nat.sub_lt_sub_left hj (Nat.lt_succ_self i)⟩, zaE⟩
 ·have hi : i = ls.length := by
   have : ¬ i < ls.length := by simpa [Sl.len] using h
   omega
  rw [hi, List.drop_length, zbz] at hs
  rw [hs]
  conv => whnf
  refine vIf (fun f2 => ?_) fun f2 => ?_
  ·have f2 : ((many : Nat) : Int) > 1 := of_decide_eq_true f2
   rw [decide_eq_false (show ¬ many ≤ 1 by omega)]
   conv => whnf
   exact zag rfl
  ·have f2 : ¬ ((many : Nat) : Int) > 1 := of_decide_eq_false f2
   rw [decide_eq_true (show many ≤ 1 by omega)]
   conv => whnf
   exact zag rfl
theorem zCf (hX : ∀ k ∈ X, k < w.heap.size) (kd : Int) (ids : List Int) (ls : List (List Int)) (q p : Qd) (hq : St (SlQ zaF ids q) w X) (hp : St (SlQ (zcM zaF) ls p) w X) (hlen : ∀ l ∈ ls, l.length ≤ 1099511627776) :
  Ct Tryz.prog 86 [.int .i64 kd, .agg (ca [.one (.slice q.1 ids.length q.2), .one (.slice p.1 ls.length p.2)])] X w (za4 (zdo kd ids ls)) [] [] := by
 refine vFn (k0 := 2) (rs := [.tmp 4]) (svs := [zam .i64 kd, .a (.agg [.one (.p (.hd 0 ids.length)), .one (.p (.hd 1 ls.length))])]) (R0 := [.sl 0 ids.length (SlF zaF ids), .sl 1 ls.length (SlF (zcM zaF) ls)]) (hnQ [q, p]) Tryz.ntmps86 Tryz.func86 rfl rfl rfl rfl rfl zah (by kernel_rfl) hX (fun r hr => by rcases List.mem_cons.1 hr with rfl | hr; exact hq; rcases List.mem_singleton.1 hr with rfl; exact hp) ?_
 conv => whnf
 refine vIf (fun f1 => ?_) fun f1 => ?_
 ·have f1 : (kd == 1) = true := f1
  rw [show zdo kd ids ls = zbp ids ls by unfold zdo; rw [f1]; rfl]
  conv => whnf
  refine zac rfl rfl rfl (by kernel_rfl) (fun h X w H => znG H.xk ids ls (h.r 0) (h.r 1) (H.fact 0 rfl) (H.fact 1 rfl) hlen) rfl rfl rfl ?_
  cases hb : zbp ids ls <;> (conv => whnf) <;> exact zag rfl
 have f1 : (kd == 1) = false := f1
 conv => whnf
 refine vIf (fun f2 => ?_) fun f2 => ?_
 ·have f2 : (kd == 2) = true := f2
  rw [show zdo kd ids ls = zbp ids ls by unfold zdo; rw [f1, f2]; rfl]
  conv => whnf
  refine zac rfl rfl rfl (by kernel_rfl) (fun h X w H => znG H.xk ids ls (h.r 0) (h.r 1) (H.fact 0 rfl) (H.fact 1 rfl) hlen) rfl rfl rfl ?_
  cases hb : zbp ids ls <;> (conv => whnf) <;> exact zag rfl
 have f2 : (kd == 2) = false := f2
 rw [show zdo kd ids ls = false by unfold zdo; rw [f1, f2]; rfl]
 conv => whnf
 exact zag rfl
theorem zoX (hX : ∀ k ∈ X, k < w.heap.size) (kd : Int) (ids : List Int) (q p : Qd) :
  Ct Tryz.prog 108 [.int .i64 kd, .agg (ca [.one (.slice q.1 ids.length q.2), .one (.slice p.1 0 p.2)]), .slice none 0 0, .int .i64 0, .int .i64 0] X w (.tup [.s (.p (.hd 0 1)), .s (.p (.v (.int .i64 0)))]) [zba zbd [zcC] 117] [.q 0 (zbS zbd [zcC])] := by
 refine vFn (k0 := 2) (rs := [.tmp 10, .tmp 11]) (svs := [zam .i64 kd, .a (.agg [.one (.p (.hd 0 ids.length)), .one (.p (.hd 1 0))]), zfM (.slice none 0 0), zam .i64 0, zam .i64 0]) (R0 := []) (hnQ [q, p]) Tryz.ntmps108 Tryz.func108 rfl rfl rfl rfl rfl zah (by kernel_rfl) hX (fun r hr => by cases hr) ?_
 conv => whnf
 refine ⟨1, rfl, ?_⟩
 conv => whnf
 refine zia 2 (zqo (T := zbd) (e := 117) (x := zcC) (μs := fun _ => [(none, 0)]) rfl rfl rfl rfl (fun h => rfl) (by_ := 72) ⟨by kernel_rfl, by kernel_rfl⟩ (by decide) rfl rfl rfl (fun h h' ag => rfl) fun h w Y H => za7) ?_
 conv => whnf
 refine ⟨0, rfl, ?_⟩
 conv => whnf
 exact zaK [(0, 5)] [0] (.inl rfl) ⟨.inl rfl, trivial⟩ rfl ⟨.inl rfl, trivial⟩
theorem zjC (hX : ∀ k ∈ X, k < w.heap.size) {kd id : Int} (hm : zdo kd [id] [] = true) (q p : Qd) (hq : St (SlQ zaF [id] q) w X) (hp : St (SlQ (zcM zaF) [] p) w X) :
  Ct Tryz.prog 85 [.int .i64 kd, .agg (ca [.one (.slice q.1 1 q.2), .one (.slice p.1 0 p.2)])] X w (.tup [.s (.p (.hd 0 1)), .s (.p (.v (.int .i64 0)))]) [zba zbd [zcC] 117] [.q 0 (zbS zbd [zcC])] := by
 refine vFn (k0 := 2) (rs := [.tmp 4, .tmp 5]) (svs := [zam .i64 kd, .a (.agg [.one (.p (.hd 0 1)), .one (.p (.hd 1 0))])]) (R0 := [.sl 0 1 (SlF zaF [id]), .sl 1 0 (SlF (zcM zaF) [])]) (hnQ [q, p]) Tryz.ntmps85 Tryz.func85 rfl rfl rfl rfl rfl zah (by kernel_rfl) hX (fun r hr => by rcases List.mem_cons.1 hr with rfl | hr; exact hq; rcases List.mem_singleton.1 hr with rfl; exact hp) ?_
 conv => whnf
 refine zac (sv := za4 true) (rs := []) (Rs := []) rfl rfl rfl (by kernel_rfl) (fun h X w H => by
  have := zCf H.xk kd [id] [] (h.r 0) (h.r 1) (H.fact 0 rfl) (H.fact 1 rfl) (fun l h => by cases h)
  rw [hm] at this
  exact this) rfl rfl rfl ?_
 conv => whnf
 refine zac (sv := .tup [.s (.p (.hd 0 1)), .s (.p (.v (.int .i64 0)))]) (rs := [zba zbd [zcC] 117]) (Rs := [.q 0 (zbS zbd [zcC])]) rfl rfl rfl (by kernel_rfl) (fun h X w H => zoX H.xk kd [id] (h.r 0) (h.r 1)) rfl rfl rfl ?_
 conv => whnf
 exact zaK [(0, 3)] [0] (.inl rfl) ⟨.inl rfl, trivial⟩ rfl ⟨.inl rfl, trivial⟩
theorem zoY {kd id : Int} {p : List Nat} (hm : zdo kd [id] [] = true) (hp : za1 [] ≠ za1 p) (hX : ∀ k ∈ X, k < w.heap.size) (q1 q2 q3 : Qd) (hq1 : St (SlQ zaF [id] q1) w X) (hq2 : St (SlQ (zcM zaF) [] q2) w X) (hq3 : St (SlQ zb5 [p] q3) w X) :
  Ct Tryz.prog 49 [(zaY kd id p).val q1 q2 q3] X w (zam .i64 0) [] [] := by
 refine vFn (k0 := 3) (rs := [.tmp 2]) (svs := [.a (.agg [zdH kd, .one (.p (.hd 0 1)), .one (.p (.hd 1 0)), .one (.p (.hd 2 1))])]) (R0 := [.sl 0 1 (SlF zaF [id]), .sl 1 0 (SlF (zcM zaF) []), .sl 2 1 (SlF zb5 [p])]) (hnQ [q1, q2, q3]) Tryz.ntmps49 Tryz.func49 rfl rfl rfl rfl rfl zah (by kernel_rfl) hX (fun r hr => by
  rcases List.mem_cons.1 hr with rfl | hr
  ·exact hq1
  rcases List.mem_cons.1 hr with rfl | hr
  ·exact hq2
  rcases List.mem_singleton.1 hr with rfl; exact hq3) ?_
 conv => whnf
 refine zac (sv := .tup [.s (.p (.hd 0 1)), .s (.p (.v (.int .i64 0)))]) (rs := [zba zbd [zcC] 117]) (Rs := [.q 0 (zbS zbd [zcC])]) rfl rfl rfl (by kernel_rfl) (fun h X w H => zjC H.xk hm (h.r 0) (h.r 1) (H.fact 0 rfl) (H.fact 1 rfl)) rfl rfl rfl ?_
 conv => whnf
 refine ⟨Nat, fun k l m R i => ⟨k, (33, zam .i64 i) :: zaC [1, 31, 32] l, m, R⟩, fun i => i ≤ 1, fun i => 1 - i, ⟨0, [], [0, 1, 2, 3], by decide, zaE⟩, fun i hi => ?_⟩
 conv => whnf
 refine vIf (fun hc => ?_) fun hc => ?_
 ·obtain rfl : i = 0 := by
   have : (i : Int) < 1 := of_decide_eq_true hc
   omega
  conv => whnf
  refine ⟨0, ⟨rfl, by decide, by decide⟩, ?_⟩
  conv => whnf
  refine za8 (zaR (T := zb5) (xs := [p]) (j := 0) (n := 32) (off := 0) (sub := [.key p]) (sv := .a (.agg [.key p])) 3 rfl (fun _ => rfl) rfl rfl rfl (by kernel_rfl) (fun _ => .inl ⟨rfl, rfl⟩)) rfl rfl ?_
  conv => whnf
  refine vF (decide_eq_false (Ne.symm hp)) ?_
  conv => whnf
  refine ⟨1, rfl, ?_⟩
  conv => whnf
  exact ⟨1, [], [0, 1, 2, 3], ⟨by decide, by decide⟩, zaE⟩
 ·conv => whnf
  exact zag rfl
end
end
end Go.Proofs.YtcmmpiaogfnmoaaGreatDoor
