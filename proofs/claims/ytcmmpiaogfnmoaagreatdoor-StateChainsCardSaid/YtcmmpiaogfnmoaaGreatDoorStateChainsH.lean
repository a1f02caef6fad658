/- A buffer that is written nothing. The library's buffer, laid at this program (written by the kit's own tool). Texts are written, one behind the other. Keys of keys, by computing. Layer 6's base point; layer 8's pairs, by computing. Ratchets and epochs begun (layers 12 and 13), by computing. Secrets of nodes; members' ratchets (layer 14), by computing. The sum of a tree of one leaf. Members (layer 17), by computing. ratchet.Check: a range over slices.Backward. Members that may be (layer 17), by computing. Layer 17's example, and what is plain about a member that is alone. The law StateChains (l -/
import Derived.Test.YtcmmpiaogfnmoaaGreatDoorStateChainsG
import Derived.Lib.Buffer
import Derived.Shelf.Bytes.WriteAny
import Derived.Shelf.Bytes.Bytes
set_option linter.unusedSimpArgs false
set_option linter.unusedVariables false
set_option maxRecDepth 200000
set_option maxHeartbeats 6000000
namespace Go.Proofs.YtcmmpiaogfnmoaaGreatDoor
section
open Go.RowKit
section
variable {P : Program} {o : Oper} {a : Act} {w ws : World} {Q : Exit → Act → World → Prop} {N d : Nat} {l : List (Nat × Value)} {v : Value} {S : Nat → Prop} {K : Act → World → Prop} {x y : Operand}
theorem zAb {t : TypeId} {A : Option Addr} {n c : Nat} (ho : o.op = .call { callee := .builtin .cap, args := #[x], argTypes := #[t] }) (hx : ev l x = some (.slice A n c)) (ht : zuC P t = true) : PK P S ws l o (.int .i64 c) := fun w' _ a N E => by
 obtain ⟨e, hu⟩ := zrx ht
 unfold execOp; rw [ho]
 simp [resolve, invoke, builtin, E.ev hx, Builtin.cap_, run_underlying hu, Sem.run_bind, goInt]
theorem zub {dT sT dn dc c : Nat} {A B : Option Addr} (E : Env a N l) (ho : o.op = .call { callee := .builtin .copy, args := #[x, y], argTypes := #[dT, sT] }) (hx : ev l x = some (.slice A dn dc)) (hy : ev l y = some (.slice B 0 c)) (hT : elK P dT = some 1) (h : K (a.put o.dst (.int .i64 0)) w) : o.wp P a w K Q := by
 obtain ⟨e, he, hs⟩ := zom hT
 have hr := run_copy_none (P := P) w dT sT o.type e A B dn dc 0 c he hs (Nat.zero_min _)
 unfold Oper.wp execOp
 simp only [ho, resolve, invoke, builtin, Sem.run_bind, Sem.run_pure, Result.andThen_ok, List.map_toArray, List.map_cons, List.map_nil, E.ev hx, E.ev hy, hr]
 exact h
end
theorem zmL {b rc : Nat} {lr : Int} {RA : Option Addr} {k : List Nat} (hkl : k.length ≤ 140737488355328) (hrc : rc ≤ 9223372036854775807) {X : List Nat} {w0 : World} (hX : ∀ k ∈ X, k < w0.heap.size) (H0 : Sep X (zab [.blk b (ca [.one (.slice RA k.length rc), .one (.int .i64 0), .one (.int .i8 lr)]) 128, .row (.slice RA k.length rc) 5 1 k.length (k.map bv)]) w0 w0 [.blk b (ca [.one (.slice RA k.length rc), .one (.int .i64 0), .one (.int .i8 lr)]) 128, .row (.slice RA k.length rc) 5 1 k.length (k.map bv)] []) :
  Calls Tryz.prog 124 #[.pointer (some ⟨b, 0, none⟩), .int .i64 0] w0 fun e w' => e = .returned (.tuple #[.int .i64 k.length, .bool true]) ∧ Sep X (zab [.blk b (ca [.one (.slice RA k.length rc), .one (.int .i64 0), .one (.int .i8 lr)]) 128, .row (.slice RA k.length rc) 5 1 k.length (k.map bv)]) w0 w' [.blk b (ca [.one (.slice RA k.length rc), .one (.int .i64 0), .one (.int .i8 lr)]) 128, .row (.slice RA k.length rc) 5 1 k.length (k.map bv)] [] := by
 refine zdX Tryz.ntmps124 Tryz.func124 rfl rfl fun a E => ?_; replace E : Env a _ [(0, _), (1, _)] := E
 have H := H0
 have hcap : k.length ≤ rc := zrA (H0.holds _ (by simp) : (Res.row (.slice RA k.length rc) 5 1 k.length (k.map bv)).holds w0)
 have hH := H0
 refine Vr ?_; refine Vv E pka fun a E => ?_; refine Vv E pka fun a E => ?_; refine Vn ?_; refine wp_seq_k fun K1 hK1 => ?_; refine Vr ?_; refine Vv E pkm fun a E => ?_; refine Vv E (zew rfl rfl) fun a E => ?_; refine Vv E (zba (off := 0) rfl rfl (by kernel_rfl)) fun a E => ?_; refine Vv E (pko H 0) fun a E => ?_; refine Vv E pkn fun a E => ?_; refine Vv E pka fun a E => ?_; refine Vn ?_; refine Vr ?_
 refine Vv E pkm fun a E => ?_; refine Vv E pkm fun a E => ?_; refine Vv E (zew rfl rfl) fun a E => ?_; refine Vv E (zba (off := 0) rfl rfl (by kernel_rfl)) fun a E => ?_; refine Vv E (pko H 0) fun a E => ?_; refine Vv E (zAb rfl rfl (by kernel_rfl)) fun a E => ?_; refine Vv E pkm fun a E => ?_; refine Vv E (zm8 rfl rfl rfl rfl (zw0 (by omega) (by omega))) fun a E => ?_; refine Vv E (zoj (v := .bool true) rfl rfl rfl (congrArg (fun b => some (Value.bool b)) (decide_eq_true (by omega)))) fun a E => ?_; refine Vn ?_; refine zor E rfl ?_
 refine Vr ?_; refine Vv E pkm fun a E => ?_; refine Vv E pkm fun a E => ?_; refine Vv E (zew rfl rfl) fun a E => ?_; refine Vv E (zba (off := 0) rfl rfl (by kernel_rfl)) fun a E => ?_; refine Vv E (pko H 0) fun a E => ?_; refine Vv E pkm fun a E => ?_; refine Vv E pkm fun a E => ?_; refine Vv E (zm8 rfl rfl rfl rfl (zw0 (by omega) (by omega))) fun a E => ?_; refine Vv E (zkz (sz := 1) (hi := k.length) rfl (by kernel_rfl) rfl rfl (by omega) hcap) fun a E => ?_
 rw [sub_zero] at E
 refine Vv E (zew rfl rfl) fun a E => ?_; refine Vv E (zba (off := 0) rfl rfl (by kernel_rfl)) fun a E => ?_; refine Ws 0 (new := [.one _]) E H fun w H => ?_; replace H : Sep _ _ _ _ [_, _] _ := H; refine Vn ?_; refine Vr ?_; refine Vv E pkm fun a E => ?_; refine Vv E pka fun a E => ?_; refine Vv E pka fun a E => ?_; refine Vn ?_; refine wp_ret ?_
 repeat (first | refine zes ?_ | refine zdt ?_)
 refine zxN rfl E (zuD rfl) (zuD rfl) ?_
 exact ⟨rfl, H⟩
theorem zmM {b rc : Nat} {lr : Int} {RA : Option Addr} {k : List Nat} {A0 : Option Addr} {c0 : Nat} (hkl : k.length ≤ 140737488355328) (hrc : rc ≤ 9223372036854775807) {X : List Nat} {w0 : World} (hX : ∀ k ∈ X, k < w0.heap.size) (H0 : Sep X (zab [.blk b (ca [.one (.slice RA k.length rc), .one (.int .i64 0), .one (.int .i8 lr)]) 128, .row (.slice RA k.length rc) 5 1 k.length (k.map bv)]) w0 w0 [.blk b (ca [.one (.slice RA k.length rc), .one (.int .i64 0), .one (.int .i8 lr)]) 128, .row (.slice RA k.length rc) 5 1 k.length (k.map bv)] []) :
  Calls Tryz.prog 99 #[.pointer (some ⟨b, 0, none⟩), .slice A0 0 c0] w0 fun e w' => e = .returned (.tuple #[.int .i64 0, .nilIface]) ∧ Sep X (zab [.blk b (ca [.one (.slice RA k.length rc), .one (.int .i64 0), .one (.int .i8 lr)]) 128, .row (.slice RA k.length rc) 5 1 k.length (k.map bv)]) w0 w' [.blk b (ca [.one (.slice RA k.length rc), .one (.int .i64 0), .one (.int .i8 0)]) 128, .row (.slice RA k.length rc) 5 1 k.length (k.map bv)] [] := by
 refine zdX Tryz.ntmps99 Tryz.func99 rfl rfl fun a E => ?_; replace E : Env a _ [(0, _), (1, _)] := E
 have H := H0
 have hcap : k.length ≤ rc := zrA (H0.holds _ (by simp) : (Res.row (.slice RA k.length rc) 5 1 k.length (k.map bv)).holds w0)
 have hH := H0
 refine Vr ?_; refine Vv E pka fun a E => ?_; refine Vv E pka fun a E => ?_; refine Vn ?_; refine Vr ?_; refine Vv E pkm fun a E => ?_; refine Vv E (zew rfl rfl) fun a E => ?_; refine Vv E (zba (off := 2) rfl rfl (by kernel_rfl)) fun a E => ?_; refine Ws 0 (new := [.one _]) E H fun w H => ?_; replace H : Sep _ _ _ _ [_, _] _ := H; refine Vn ?_; refine Vr ?_; refine Vv E pkm fun a E => ?_; refine Vv E pkm fun a E => ?_; refine Vv E pkn fun a E => ?_; refine Ve E ?_; refine Vc E ?_; refine (zmL (b := b) (k := k) (rc := rc) (RA := RA) hkl hrc (Sep.giveA (L1 := [_, _]) (L := []) H).xlt (Sep.giveA (L1 := [_, _]) (L := []) H)).mono ?_; rintro e w ⟨rfl, H1⟩
 replace H := Sep.callA (L1 := [_, _]) (L := []) H H1
 clear H1; replace H : Sep _ _ _ _ [_, _] [] := H; refine Vp E fun a E => ?_; refine Vv E pkm fun a E => ?_; refine Vv E pkx fun a E => ?_; refine Vv E pkx fun a E => ?_; refine Vv E pka fun a E => ?_; refine Vv E pka fun a E => ?_; refine Vn ?_; refine wp_seq_k fun K3 hK3 => ?_; refine Vr ?_; refine Vv E pkm fun a E => ?_; refine Vv E (zrk rfl rfl) fun a E => ?_; refine Vn ?_; refine zos E rfl ?_; refine wp_skip ?_; refine hK3 _ _ ?_; refine Vr ?_
 refine Vv E pkm fun a E => ?_; refine Vv E (zew rfl rfl) fun a E => ?_; refine Vv E (zba (off := 0) rfl rfl (by kernel_rfl)) fun a E => ?_; refine Vv E (pko H 0) fun a E => ?_; refine Vv E pkm fun a E => ?_; refine Vv E (zhA (sz := 1) (lo := k.length) rfl (by kernel_rfl) rfl rfl rfl (jV _)) fun a E => ?_; refine Vv E pkm fun a E => ?_; refine Ve E ?_; refine zub E rfl rfl rfl (by kernel_rfl) ?_; refine Vp E fun a E => ?_; refine Vv E pka fun a E => ?_
 refine Vv E pka fun a E => ?_; refine Vn ?_; refine wp_ret ?_
 repeat (first | refine zes ?_ | refine zdt ?_)
 refine zxN rfl E (zuD rfl) (zuD rfl) ?_
 exact ⟨rfl, H⟩
end
section
open Go.Shelf
def zoa : Go.Shelf.Ren := ⟨fun | 180 => 99 | 251 => 124 | 252 => 125 | 181 => 157 | 184 => 158 | 290 => 159 | 324 => 179 | n => n, fun | 130 => 160 | 37 => 72 | 3 => 3 | 75 => 130 | 0 => 0 | 93 => 128 | 91 => 126 | 131 => 114 | 4 => 4 | 20 => 20 | 5 => 5 | 80 => 237 | 9 => 9 | n => n, fun | 14 => 1 | n => n⟩
theorem zAc : Go.Proofs.LaysM.n180 Tryz.prog zoa := {
 mixed := by kernel_rfl
 f180 := Tryz.func99.trans (congrArg some (by kernel_rfl))
 f181 := Tryz.func157.trans (congrArg some (by kernel_rfl))
 f184 := Tryz.func158.trans (congrArg some (by kernel_rfl))
 f251 := Tryz.func124.trans (congrArg some (by kernel_rfl))
 f252 := Tryz.func125.trans (congrArg some (by kernel_rfl))
 f290 := Tryz.func159.trans (congrArg some (by kernel_rfl))
 f324 := Tryz.func179.trans (congrArg some (by kernel_rfl))
 t0 := Tryz.underlying0
 a0 := Tryz.isAgg0
 z0 := Tryz.sizeOf0
 v0 := Tryz.zeroValue0
 t3 := Tryz.underlying3
 a3 := Tryz.isAgg3
 z3 := Tryz.sizeOf3
 v3 := Tryz.zeroValue3
 t4 := Tryz.underlying4
 a4 := Tryz.isAgg4
 z4 := Tryz.sizeOf4
 v4 := Tryz.zeroValue4
 t20 := Tryz.underlying20
 a20 := Tryz.isAgg20
 z20 := Tryz.sizeOf20
 v20 := Tryz.zeroValue20
 t37 := Tryz.underlying72
 a37 := Tryz.isAgg72
 z37 := Tryz.sizeOf72
 v37 := Tryz.zeroValue72
 t75 := Tryz.underlying130
 a75 := Tryz.isAgg130
 z75 := Tryz.sizeOf130
 v75 := Tryz.zeroValue130
 t91 := Tryz.underlying126
 a91 := Tryz.isAgg126
 z91 := Tryz.sizeOf126
 v91 := Tryz.zeroValue126
 t93 := Tryz.underlying128
 a93 := Tryz.isAgg128
 z93 := Tryz.sizeOf128
 v93 := Tryz.zeroValue128
 t130 := Tryz.underlying160
 a130 := Tryz.isAgg160
 z130 := Tryz.sizeOf160
 v130 := Tryz.zeroValue160
 t131 := Tryz.underlying114
 a131 := Tryz.isAgg114
 z131 := Tryz.sizeOf114
 v131 := Tryz.zeroValue114
 g14 := by kernel_rfl
 t5 := Tryz.underlying5
 a5 := Tryz.isAgg5
 z5 := Tryz.sizeOf5
 v5 := Tryz.zeroValue5
 t9 := Tryz.underlying9
 a9 := Tryz.isAgg9
 z9 := Tryz.sizeOf9
 v9 := Tryz.zeroValue9
 t80 := Tryz.underlying237
 a80 := Tryz.isAgg237
 z80 := Tryz.sizeOf237
 v80 := Tryz.zeroValue237
 i0 := by kernel_rfl
 i3 := by kernel_rfl
 i4 := by kernel_rfl
 i5 := by kernel_rfl
 i9 := by kernel_rfl
 i20 := by kernel_rfl
 i37 := by kernel_rfl
 i75 := by kernel_rfl
 i80 := by kernel_rfl
 i91 := by kernel_rfl
 i93 := by kernel_rfl
 i130 := by kernel_rfl
 i131 := by kernel_rfl
 m14 := by kernel_rfl }
def zob : Go.Shelf.Ren := ⟨fun | 183 => 100 | n => n, fun | 130 => 160 | 37 => 72 | 0 => 0 | 93 => 128 | 3 => 3 | 5 => 5 | 91 => 126 | n => n, fun | n => n⟩
theorem zAd : Go.Proofs.LaysM.n183 Tryz.prog zob := {
 mixed := by kernel_rfl
 f183 := Tryz.func100.trans (congrArg some (by kernel_rfl))
 t0 := Tryz.underlying0
 a0 := Tryz.isAgg0
 z0 := Tryz.sizeOf0
 v0 := Tryz.zeroValue0
 t3 := Tryz.underlying3
 a3 := Tryz.isAgg3
 z3 := Tryz.sizeOf3
 v3 := Tryz.zeroValue3
 t37 := Tryz.underlying72
 a37 := Tryz.isAgg72
 z37 := Tryz.sizeOf72
 v37 := Tryz.zeroValue72
 t93 := Tryz.underlying128
 a93 := Tryz.isAgg128
 z93 := Tryz.sizeOf128
 v93 := Tryz.zeroValue128
 t130 := Tryz.underlying160
 a130 := Tryz.isAgg160
 z130 := Tryz.sizeOf160
 v130 := Tryz.zeroValue160
 t5 := Tryz.underlying5
 a5 := Tryz.isAgg5
 z5 := Tryz.sizeOf5
 v5 := Tryz.zeroValue5
 t91 := Tryz.underlying126
 a91 := Tryz.isAgg126
 z91 := Tryz.sizeOf126
 v91 := Tryz.zeroValue126
 i0 := by kernel_rfl
 i3 := by kernel_rfl
 i5 := by kernel_rfl
 i37 := by kernel_rfl
 i91 := by kernel_rfl
 i93 := by kernel_rfl
 i130 := by kernel_rfl }
end
section
open Go.RowKit
def zqX (B b : Nat) (k : List Nat) (w : World) : Prop := Lib.IsBuffer 128 5 B b (k.map bv) w
def zdj (ts : List (List Nat)) : List Nat := ts.flatMap fun t => beL 2 t.length ++ t
def zkk (m : List Nat) (ts : List (List Nat)) : List Nat × Int := if ∀ t ∈ ts, t.length ≤ 65535 then (m ++ zdj ts, 0) else ([], 4)
theorem zeJ (n : Nat) : (beL 2 n).length = 2 := by simp [beL, beK]
theorem zuc {ts : List (List Nat)} {i : Nat} {t : List Nat} (h : ts[i]? = some t) : zdj (ts.take (i + 1)) = zdj (ts.take i) ++ beL 2 t.length ++ t := by
 unfold zdj
 rw [List.take_add_one, h, List.flatMap_append]
 simp
theorem zqc (ts : List (List Nat)) (h : ∀ t ∈ ts, t.length ≤ 65535) : (zdj ts).length ≤ 65537 * ts.length := by
 induction ts with
 | nil => simp [zdj]
 | cons t ts ih =>
  have h1 := ih fun x hx => h x (List.mem_cons_of_mem _ hx)
  have h2 := h t (List.mem_cons_self ..)
  have h3 : (beL 2 t.length).length = 2 := by simp [beL, beK]
  have e : zdj (t :: ts) = beL 2 t.length ++ t ++ zdj ts := by simp [zdj]
  rw [e, jQ, jQ, h3, List.length_cons]
  omega
theorem zud (ts : List (List Nat)) (h : ∀ t ∈ ts, ∀ x ∈ t, x < 256) : ∀ x ∈ zdj ts, x < 256 := fun x hx => by
 obtain ⟨t, ht, hx⟩ := List.mem_flatMap.1 hx
 rcases List.mem_append.1 hx with h1 | h1
 ·exact ztI _ _ x h1
 ·exact h t ht x h1
section
variable {X : List Nat} {w0 w w' : World} {L : List Res} {R : List (World → Prop)} {B b c : Nat} {k m : List Nat} {A : Option Addr} {Y : List Nat}
theorem zCc (h : zqX B b k w) (hX : ∀ i ∈ X, i < B) : St (zqX B b k) w X := fun w2 hk => by
 obtain ⟨hB, v, lr, hb, hrow, hne⟩ := h
 refine ⟨hB, v, lr, (hk b (jM hb) fun hm => by have := hX b hm; omega).trans hb, ⟨hrow.1, ?_⟩, hne⟩
 rcases hrow.2 with h2 | ⟨g, cap, cur, rfl, h3, hh, h4⟩
 ·exact .inl h2
 ·exact .inr ⟨g, cap, cur, rfl, h3, (hk g (jM hh) fun hm => by have := hX g hm; omega).trans hh, h4⟩
theorem zue (hX : ∀ i ∈ X, i < w0.heap.size) (hb : Below w0.heap.size w0 w) (h : zqX w0.heap.size b k w) (hf : ∀ r ∈ R, St r w0 X) : Sep X [] w0 w [] (zqX w0.heap.size b k :: R) :=
 ⟨Frm.of_below hb, hX, fun _ h => (by cases h), List.nodup_nil, fun _ h => (by cases h), fun r hr => by
  rw [zab, List.append_nil]
  rcases List.mem_cons.1 hr with rfl | hr
  ·exact zCc h hX
  ·exact (hf r hr).step hb.size (fun i hi _ => hb.block i hi) fun i hi => .inl hi⟩
theorem zqY (H : Sep X [] w0 w (.blk b (ca [.one (.slice none 0 0), .one (.int .i64 0), .one (.int .i8 0)]) 128 :: L) R) : Sep X [] w0 w L (zqX w0.heap.size b [] :: R) := by
 have hm : w0.heap.size ≤ b := by
  rcases H.mine b (by simp [zab, Res.keys]) with h | h
  ·cases h
  ·exact h
 have hf := H.freezeX (Sep.new_x H)
 refine hf.pop.know ((hf.facts _ (List.mem_cons_self ..)).imp fun w2 h => ⟨hm, .slice none 0 0, 0, h, World.ownsRow_nil _ _ _ _, by simp [Value.ownBlock]⟩)
theorem zem (H : Sep X [] w0 w [] (zqX w0.heap.size b k :: R)) (hf : ∀ r ∈ R, St r w0 X) (hm : TxF A c m w) (hne : m ≠ [] → ∀ ad, A = some ad → ad.block ≠ b) (hl : k.length + m.length ≤ 140737488355328) :
  Calls Tryz.prog 99 #[.pointer (some ⟨b, 0, none⟩), .slice A m.length c] w fun e w' => ∃ z, e = .returned z ∧ Sep X [] w0 w' [] (zqX w0.heap.size b (k ++ m) :: R) := by
 have hI : zqX w0.heap.size b k w := (H.facts _ (List.mem_cons_self ..)).now
 have hB := H.frm.below
 by_cases h0 : m = []
 ·subst h0
  obtain ⟨hb, v, lr, hh, hrow, hne2⟩ := hI
  have hrow' := hrow
  rw [List.length_map] at hrow'
  obtain ⟨RA, rc, hv, hrc⟩ : ∃ RA rc, v = .slice RA k.length rc ∧ rc ≤ 9223372036854775807 := by
   rcases hrow'.2 with ⟨h1, h2⟩ | ⟨g, cap, cur, h1, h3, _, _, h5, _⟩
   ·exact ⟨none, 0, by rw [h1, h2], by omega⟩
   ·exact ⟨_, _, h1, by unfold maxLen at h5; omega⟩
  subst hv
  have hap : ∀ g, (Value.slice RA k.length rc).ownBlock = some g → g ≠ b ∧ w0.heap.size ≤ g := fun g hg => ⟨fun e => hne2 (by rw [hg, e]), (World.ownsRow.lt hrow' g hg).1⟩
  have HS : Sep [] (zab [.blk b (ca [.one (.slice RA k.length rc), .one (.int .i64 0), .one (.int .i8 lr)]) 128, .row (.slice RA k.length rc) 5 1 k.length (k.map bv)]) w w [.blk b (ca [.one (.slice RA k.length rc), .one (.int .i64 0), .one (.int .i8 lr)]) 128, .row (.slice RA k.length rc) 5 1 k.length (k.map bv)] [] :=
   ⟨Frm.refl _ _, fun _ h => (by cases h), fun r hr => by
    simp only [List.mem_cons, List.not_mem_nil, or_false] at hr
    rcases hr with rfl | rfl
    ·exact hh
    ·refine ⟨hrow'.1, ?_⟩
     rcases hrow'.2 with h2 | ⟨g, cap, cur, h1, h3, h4⟩
     ·exact .inl h2
     ·exact .inr ⟨g, cap, cur, h1, Nat.zero_le _, h4⟩, by
    cases hq : (Value.slice RA k.length rc).ownBlock with
    | none => simp [zab, Res.keys, hq]
    | some g => have := (hap g hq).1; simp [zab, Res.keys, hq, Ne.symm this], fun k hk => .inl hk, fun _ h => (by cases h)⟩
  refine (zmM (k := k) (by simpa using hl) hrc (fun _ h => by cases h) HS).mono ?_
  rintro e w2 ⟨rfl, H2⟩
  refine ⟨_, rfl, ?_⟩
  rw [List.append_nil]
  have hlt := hB.size
  refine zue H.xlt ⟨H2.frm.os.trans hB.os, H2.frm.tape.trans hB.tape, H2.frm.output.trans hB.output, jU hlt H2.frm.size, fun i hi => (H2.frm.block i (by omega) fun hm => ?_).trans (hB.block i hi)⟩ ⟨hb, .slice RA k.length rc, 0, H2.holds (.blk b (ca [.one (.slice RA k.length rc), .one (.int .i64 0), .one (.int .i8 0)]) 128) (by simp), ?_, hne2⟩ hf
  ·simp only [zab, Res.keys, List.mem_append, List.mem_singleton, Option.mem_toList, List.not_mem_nil, or_false] at hm
   rcases hm with h | h
   ·omega
   ·have := (hap i h).2; omega
  ·have h2 : w2.ownsRow 0 5 1 (.slice RA k.length rc) k.length (k.map bv) := H2.holds (.row (.slice RA k.length rc) 5 1 k.length (k.map bv)) (by simp)
   rw [List.length_map]
   refine ⟨h2.1, ?_⟩
   rcases h2.2 with h3 | ⟨g, cap, cur, h1, h3, h4⟩
   ·exact .inl h3
   ·exact .inr ⟨g, cap, cur, h1, (hap g (by rw [h1]; rfl)).2, h4⟩
 ·have hpos : 0 < m.length := List.length_pos_iff.2 h0
  cases A with
  | none => have := (hm.nil rfl).1; omega
  | some ad =>
   have h := Any.Buffer_Write_any zAc w0.heap.size b (k.map bv) (m.map bv) ad m.length c w hI hB.size (fun v hv => by obtain ⟨z, _, rfl⟩ := List.mem_map.1 hv; rfl) (by simp) (hne h0 ad rfl)
    (by have := zhB (m := m.length) hm ad rfl; rwa [List.take_length] at this) (fun v hv => by obtain ⟨z, _, rfl⟩ := List.mem_map.1 hv; rfl) (by simpa using hl)
   refine Calls.mono h ?_
   rintro e w2 ⟨rfl, h1, h2, -⟩
   refine ⟨_, rfl, zue H.xlt (hB.trans h2) ?_ hf⟩
   unfold zqX
   rw [List.map_append]
   exact h1
theorem zmN (H : Sep X [] w0 w [] (zqX w0.heap.size b k :: R)) (hf : ∀ r ∈ R, St r w0 X) (hl : k.length ≤ 140737488355328) (hk : ∀ x ∈ k, x < 256) :
  Calls Tryz.prog 100 #[.pointer (some ⟨b, 0, none⟩)] w fun e w' => ∃ A' c', e = .returned (.slice A' k.length c') ∧ Sep X [] w0 w' [] [TxF A' c' k] := by
 have hI : zqX w0.heap.size b k w := (H.facts _ (List.mem_cons_self ..)).now
 have h := Any.Buffer_Bytes zAd w0.heap.size b (k.map bv) w hI
 refine Calls.mono h ?_
 rintro e w2 ⟨v, rfl, h1, n, rfl⟩
 have h1' : (w.drewN n).ownsRow w0.heap.size 5 1 v k.length (k.map bv) := by have := h1; rwa [List.length_map] at this
 have hb : Below w0.heap.size w0 (w.drewN n) := H.frm.below.trans ⟨rfl, rfl, rfl, jV _, fun _ _ => rfl⟩
 obtain ⟨A', c', rfl, h2⟩ := znh (X := X) (w0 := w0) (k := k) H.xlt h1' hb
 exact ⟨A', c', rfl, h2.rowTx (Sep.new_x h2) hl hk⟩
theorem zwN (hX : ∀ i ∈ X, i < w0.heap.size) {n : Nat} (hn : n < 18446744073709551616) :
  Calls Tryz.prog 68 #[.slice none 0 0, .int .i64 2, .int .u64 ((n : Nat) : Int)] w0 fun e w' => ∃ A' c', e = .returned (.slice A' (beL 2 n).length c') ∧ Sep X [] w0 w' [] [TxF A' c' (beL 2 n)] ∧ ∀ q, q < w0.heap.size → ∀ ad, A' = some ad → ad.block ≠ q := by
 refine (ztO (.slice none 0 0) [] w0.heap.size 2 n (by omega) hn (by decide) w0 Own.nil_ (jV _)).mono ?_
 rintro e w2 ⟨⟨v, rfl, ho⟩, hb⟩
 rw [List.nil_append] at ho
 have hlt := ho.lt
 obtain ⟨A', c', rfl, h2⟩ := znh (X := X) hX ho hb
 refine ⟨A', c', rfl, h2.rowTx (Sep.new_x h2) (by simp [beL, beK]) (ztI _ _), fun q hq ad hA e => ?_⟩
 subst hA
 have h3 := ho.2
 rcases h3 with ⟨h4, _⟩ | ⟨g, cap, cur, h4, h5, _⟩
 ·cases h4
 ·injection h4 with h4
  injection h4 with h4
  subst h4
  simp only at e
  omega
end
theorem zwO {A TA : Option Addr} {c0 tc : Nat} {m0 : List Nat} {ts : List (List Nat)} {tm : Nat → zax.μ} (hm0 : m0.length ≤ 100000000) (hts : ts.length ≤ 1000000) {X : List Nat} {w0 : World} (hX : ∀ k ∈ X, k < w0.heap.size) (hA : St (TxF A c0 m0) w0 X) (hL : St (LiF zax TA tc ts tm) w0 X) :
  Calls Tryz.prog 69 #[.slice A m0.length c0, .slice TA ts.length tc] w0 fun e w' => ∃ A' c', e = .returned (.tuple #[.slice A' (zkk m0 ts).1.length c', .int .i64 (zkk m0 ts).2]) ∧ Sep X [] w0 w' [] [TxF A' c' (zkk m0 ts).1] := by
 refine zdX Tryz.ntmps69 Tryz.func69 rfl rfl fun a E => ?_; replace E : Env a _ [(0, _), (1, _)] := E
 have H : Sep X [] w0 w0 [] [(TxF A c0 m0), (LiF zax TA tc ts tm)] := Sep.start hX (jJ.2 ⟨hA, jJ.2 ⟨hL, fun _ h => by cases h⟩⟩)
 refine Vr ?_; refine Vv E pka fun a E => ?_; refine Vv E pka fun a E => ?_; refine Vn ?_; refine Vr ?_; refine Wa (z := [.one (.slice none 0 0), .one (.int .i64 0), .one (.int .i8 0)]) E H fun b6 w a H E => ?_
 replace H := zqY H
 replace H : Sep _ _ _ _ [] [_, _, _] := H
 have hb6 : w0.heap.size ≤ b6 := (St.now (H.fact 0 rfl)).1
 refine Vn ?_; refine Vr ?_; refine Vv E pkm fun a E => ?_; refine Ve E ?_; refine Vc E ?_
 have HB := H.refacts (R' := [_, _, _]) (jJ.2 ⟨H.fact 0 rfl, jJ.2 ⟨H.fact 1 rfl, jJ.2 ⟨H.fact 2 rfl, jK _⟩⟩⟩)
 refine (zem (k := []) HB (jJ.2 ⟨hA, jJ.2 ⟨hL, jK _⟩⟩) (St.now (H.fact 1 rfl)) (fun hne0 ad hA2 => by obtain ⟨z, hz⟩ := List.exists_mem_of_ne_nil _ hne0; obtain ⟨q, hq⟩ := List.mem_iff_getElem?.1 hz; have h1 := World.block_lt_of_cell? _ _ (hA.now.at_ ad hA2 q z hq); rw [zdp] at h1; omega) (by simp only [List.length_nil]; omega)).mono ?_; rintro e w ⟨z24, rfl, H1⟩
 replace H := H1
 clear H1; replace H : Sep _ _ _ _ [] [_, _, _] := H; refine Vp E fun a E => ?_; clear HB; refine Vn ?_; refine wp_seq_k fun K3 hK3 => ?_; refine Vr ?_; refine Vv E pkm fun a E => ?_; refine Vv E pkn fun a E => ?_; refine Vv E pkm fun a E => ?_; refine Vn ?_; refine wp_block ?_
 refine zxT (γ := Nat) [6, 11, 12] (fun i => [(13, .int .i64 (i : Int))]) (fun i => []) (fun i => [zqX w0.heap.size b6 (m0 ++ zdj (ts.take i)), TxF A c0 m0, LiF zax TA tc ts tm]) (fun i => i ≤ ts.length ∧ ∀ t ∈ ts.take i, t.length ≤ 65535) (fun i => ts.length - i) (0) E (by show Sep _ _ _ _ [] [zqX _ _ (m0 ++ zdj (ts.take 0)), _, _]; rw [jI, show zdj [] = [] from rfl, List.append_nil]; exact H) (by repeat (first | exact trivial | refine ⟨rfl, ?_⟩)) (⟨Nat.zero_le _, fun t ht => by simp at ht⟩) ?_; clear E H; intro i a w E H hφ; replace E : Env a _ [(13, _), (6, _), (11, _), (12, _)] := E; replace H : Sep _ _ _ _ [] [_, _, _] := H
 obtain ⟨hφ, hsm⟩ := hφ
 refine Vr ?_; refine Vv E pki fun a E => ?_; refine Vn ?_; refine wp_seq_k fun K6 hK6 => ?_; refine zhv (d := 14) E rfl ?_ ?_
 ·skip
  clear E; intro c14 E
  have hi : i < ts.length := by have := c14; simp only [jS] at this; omega
  have hx0 : ts[i]? = some ts[i] := jP hi
  obtain ⟨adi, hti⟩ := LiF.get hL hx0
  obtain ⟨_, hti⟩ := hti
  have hel : (m0 ++ zdj (ts.take i)).length = m0.length + (zdj (ts.take i)).length := jQ ..
  have hel2 := zqc (ts.take i) hsm
  rw [List.length_take] at hel2
  refine zor E rfl ?_; refine wp_skip ?_; refine hK6 _ _ ?_; refine wp_seq_k fun K7 hK7 => ?_; refine wp_block ?_; refine Vr ?_
  obtain ⟨ad15, hA15, hc15, hn15⟩ := LiF.get (A := TA) (T := zax) (i := i) (x := ts[i]) (by exact H.fact 2 rfl) hx0
  refine Vv E (zAN (sz := 1) hA15 rfl (by kernel_rfl) rfl rfl rfl (by omega)) fun a E => ?_
  replace H := (H.know hn15).know hc15
  clear hn15 hc15; replace H : Sep _ _ _ _ _ [_, _, _, _, _] := H; refine Vv E (zru (H.fact 0 rfl) (fun _ _ _ => trivial) rfl rfl rfl (by kernel_rfl)) fun a E => ?_; refine Vv E pka fun a E => ?_; refine Vn ?_; refine wp_seq_k fun K9 hK9 => ?_; refine Vr ?_; refine Vv E pkm fun a E => ?_; refine Vv E pkn fun a E => ?_; refine Vv E pki fun a E => ?_; refine Vn ?_; refine zhv (d := 19) E rfl ?_ ?_
  ·skip
   clear E; intro c19 E
   have hbig : ¬ ts[i].length ≤ 65535 := by have := c19; simp only [jS] at this; omega
   have htv : zkk m0 ts = ([], 4) := by unfold zkk; rw [if_neg (fun h => hbig (h _ (List.getElem_mem hi)))]
   refine zor E rfl ?_; refine Vr ?_; refine Vv E pka fun a E => ?_; refine Vv E pka fun a E => ?_; refine Vn ?_; refine wp_ret ?_
   repeat (first | refine zes ?_ | refine zdt ?_)
   refine zxN rfl E (zuD rfl) (zuD rfl) ?_
   rw [htv]
   exact ⟨none, 0, rfl, (H.know zna).refacts (jJ.2 ⟨zna, jK _⟩)⟩
  ·skip
   clear E; intro c19 E
   have hle : ts[i].length ≤ 65535 := by have := c19; simp only [decide_eq_false_iff_not] at this; omega
   refine zos E rfl ?_; refine wp_skip ?_; refine hK9 _ _ ?_; refine Vr ?_; refine Vv E pkm fun a E => ?_; refine Vv E pkn fun a E => ?_; refine Vv E (zuS rfl rfl (by kernel_rfl) (by kernel_rfl) (zAq (by omega) (by omega))) fun a E => ?_; refine Ve E ?_; refine Vc E ?_
   have hbl : b6 < w.heap.size := Lib.IsBuffer.lt (St.now (H.fact 2 rfl))
   refine (zwN (n := ts[i].length) H.xk (by omega)).mono ?_; rintro e w ⟨A23, c23, rfl, H1, hq23⟩
   replace H := H.call H1
   clear H1; replace H : Sep _ _ _ _ [] [_, _, _, _, _, _] := H; refine Vp E fun a E => ?_
   have hne23 := hq23 _ hbl
   clear hq23 hbl; refine Ve E ?_; refine Vc E ?_
   have HB := H.refacts (R' := [_, _, _]) (jJ.2 ⟨H.fact 3 rfl, jJ.2 ⟨H.fact 4 rfl, jJ.2 ⟨H.fact 5 rfl, jK _⟩⟩⟩)
   refine (zem (k := (m0 ++ zdj (ts.take i))) HB (jJ.2 ⟨hA, jJ.2 ⟨hL, jK _⟩⟩) (St.now (H.fact 0 rfl)) (fun _ => hne23) (by rw [hel, zeJ]; omega)).mono ?_; rintro e w ⟨z24, rfl, H1⟩
   replace H := H1
   clear H1; replace H : Sep _ _ _ _ [] [_, _, _] := H; refine Vp E fun a E => ?_; clear HB; refine Vn ?_; refine zjm ?_; refine Vv E pkm fun a E => ?_; refine Ve E ?_; refine Vc E ?_
   have HB := H.refacts (R' := [_, _, _]) (jJ.2 ⟨H.fact 0 rfl, jJ.2 ⟨H.fact 1 rfl, jJ.2 ⟨H.fact 2 rfl, jK _⟩⟩⟩)
   refine (zem (k := ((m0 ++ zdj (ts.take i)) ++ beL 2 ts[i].length)) HB (jJ.2 ⟨hA, jJ.2 ⟨hL, jK _⟩⟩) (St.now (hti.2.step H.frm.size (fun q hq _ => H.frm.block q hq (by simp)) (fun q hq => .inl hq))) (fun hne0 ad hA2 => by obtain ⟨z, hz⟩ := List.exists_mem_of_ne_nil _ hne0; obtain ⟨q, hq⟩ := List.mem_iff_getElem?.1 hz; have h1 := World.block_lt_of_cell? _ _ (hti.2.now.at_ ad hA2 q z hq); rw [zdp] at h1; omega) (by rw [jQ, hel, zeJ]; omega)).mono ?_; rintro e w ⟨z24, rfl, H1⟩
   replace H := H1
   clear H1; replace H : Sep _ _ _ _ [] [_, _, _] := H; refine Vp E fun a E => ?_; clear HB; refine hK7 _ _ ?_; refine zjm ?_; refine Vv E (zm8 rfl rfl rfl rfl (zw0 (by omega) (by omega))) fun a E => ?_; refine Vv E pkm fun a E => ?_
   rw [show (m0 ++ zdj (ts.take i)) ++ beL 2 ts[i].length ++ ts[i] = m0 ++ zdj (ts.take (i + 1)) from by rw [zuc hx0]; simp only [List.append_assoc]] at H
   refine zuZ ?_
   exact ⟨i + 1, ⟨E.to (by repeat (first | exact trivial | refine ⟨rfl, ?_⟩)), H, ⟨by omega, fun t ht => by rw [List.take_add_one, hx0] at ht; rcases List.mem_append.1 ht with h1 | h1; exact hsm t h1; simp only [Option.toList_some, List.mem_singleton] at h1; subst h1; exact hle⟩⟩, by omega⟩
 ·skip
  clear E; intro c14 E
  obtain rfl : i = ts.length := by have := c14; simp only [decide_eq_false_iff_not] at this; omega
  rw [List.take_length] at H hsm
  have hall := hsm
  have htv : zkk m0 ts = (m0 ++ zdj ts, 0) := by unfold zkk; rw [if_pos hall]
  have hbyte : ∀ x ∈ m0 ++ zdj ts, x < 256 := fun x hx => by
   rcases List.mem_append.1 hx with h1 | h1
   ·exact hA.now.byt x h1
   ·exact zud ts (fun t ht => by
     obtain ⟨q, hq⟩ := List.mem_iff_getElem?.1 ht
     obtain ⟨_, _, _, h3⟩ := LiF.get hL hq
     exact (St.now h3 : TxF _ _ _ _).byt) x h1
  refine zos E rfl ?_; refine wp_exit ?_
  repeat (first | refine zrv ?_ | refine zrw ?_ | refine zqj (by decide) ?_)
  refine hK3 _ _ ?_; refine Vr ?_; refine Ve E ?_; refine Vc E ?_; refine (zmN (k := m0 ++ zdj ts) H (jJ.2 ⟨hA, jJ.2 ⟨hL, jK _⟩⟩) (by rw [jQ]; have := zqc ts hall; omega) hbyte).mono ?_; rintro e w ⟨A28, c28, rfl, H1⟩
  replace H := H1
  clear H1; replace H : Sep _ _ _ _ [] [_] := H; refine Vp E fun a E => ?_; refine Vv E pka fun a E => ?_; refine Vv E pka fun a E => ?_; refine Vn ?_; refine wp_ret ?_
  repeat (first | refine zes ?_ | refine zdt ?_)
  refine zxN rfl E (zuD rfl) (zuD rfl) ?_
  rw [htv]
  exact ⟨A28, c28, rfl, H⟩
end
section
open Go.RowKit
def okT (ts : List (List Nat)) : Prop := ∀ t ∈ ts, t.length ≤ 65535
theorem zwP {m : List Nat} {ts : List (List Nat)} (h : okT ts) : zkk m ts = (m ++ zdj ts, 0) := by unfold zkk; exact if_pos h
def zwQ : List Nat := [99, 111, 116, 101, 114, 105, 101]
def zfZ (gt : Nat → Nat) (k lab : List Nat) (ts : List (List Nat)) : List Nat := zxB gt k (zdj (zwQ :: lab :: ts)) 32
def zmO (ts : List (List Nat)) : Prop := ts.length ≤ 100 ∧ ∀ t ∈ ts, t.length ≤ 1000
theorem zcQ : zmO [] := ⟨by show 0 ≤ 100; decide, fun t h => by cases h⟩
theorem zuf {ts : List (List Nat)} (h : zmO ts) : okT ts := fun t ht => by have := h.2 t ht; omega
theorem zi8 : ∀ (ts : List (List Nat)), (∀ t ∈ ts, t.length ≤ 1000) → (zdj ts).length ≤ 1002 * ts.length
 | [], _ => jV _
 | t :: ts, h => by
  have h1 := zi8 ts fun t ht => h t (List.mem_cons_of_mem _ ht)
  have h2 := h t (List.mem_cons_self ..)
  show ((beL 2 t.length ++ t) ++ zdj ts).length ≤ _
  rw [jQ, jQ, zeJ, List.length_cons]
  omega
theorem zwR (a b : List Nat) (ts : List (List Nat)) : zdj [a, b] ++ zdj ts = zdj (a :: b :: ts) := by
 unfold zdj
 rw [← List.flatMap_append]
 rfl
theorem zfV (gt : Nat → Nat) (k lab : List Nat) (ts : List (List Nat)) : (zfZ gt k lab ts).length = 32 := zj9 _ _ _ _
theorem zdC (gt : Nat → Nat) (k lab : List Nat) (ts : List (List Nat)) : ∀ x ∈ zfZ gt k lab ts, x < 256 := ztK _ _ _ _
theorem zAe {lab : List Nat} (h : lab.length ≤ 100) : okT [zwQ, lab] := fun t ht => by
 simp only [List.mem_cons, List.not_mem_nil, or_false] at ht
 rcases ht with rfl | rfl
 ·show 7 ≤ 65535; decide
 ·omega
section
variable {X : List Nat} {w : World} {gt : Nat → Nat} {ts : List (List Nat)} {q q2 : Qd}
theorem zoc {m0 : List Nat} (hok : okT ts) (hm0 : m0.length ≤ 100000000) (hts : ts.length ≤ 1000000) (hX : ∀ k ∈ X, k < w.heap.size) (hA : St (TxQ m0 q) w X) (hL : St (SlQ zax ts q2) w X) : Ct Tryz.prog 69 [.slice q.1 m0.length q.2, .slice q2.1 ts.length q2.2] X w (.tup [.s (.p (.hd 0 (m0 ++ zdj ts).length)), .s (.p (.v (.int .i64 0)))]) [.gone] [.sl 0 (m0 ++ zdj ts).length (TxG (m0 ++ zdj ts))] := by
 obtain ⟨mm, hm⟩ := zqv zjN hL
 refine (zwO hm0 hts hX (zgy hA) hm).mono ?_
 rintro e w' ⟨A', c', rfl, HS⟩
 rw [zwP hok] at HS ⊢
 refine ⟨hnQ [(A', c')], rfl, HS.refacts fun r hr => ?_⟩
 rcases List.mem_singleton.1 hr with rfl
 exact (HS.facts _ (List.mem_cons_self ..)).imp fun w2 hw => ⟨fun e => (hw.nil e).1, hw⟩
theorem zfW {s : ByteArray} {kk lab : List Nat} (hs : s.data.toList.map UInt8.toNat = lab) (hlab : lab.length ≤ 100) (hk32 : kk.length = 32) (hkb : ∀ x ∈ kk, x < 256) (hts : zmO ts) (hX : ∀ k ∈ X, k < w.heap.size) (hL : St (SlQ zax ts q) w X) (hG : St (zc7 gt 2) w X) : Ct Tryz.prog 41 [.agg (ca [.key kk]), .string s, .slice q.1 ts.length q.2] X w (.tup [.agg [.key (zfZ gt kk lab ts)], .s (.p (.v (.int .i64 0)))]) [] [] := by
 have hst := hts.1
 have hsl := zi8 ts hts.2
 have hs2 : (zdj [zwQ, lab]).length = 11 + lab.length := by
  show ((beL 2 zwQ.length ++ zwQ) ++ ((beL 2 lab.length ++ lab) ++ [])).length = _
  rw [jQ, jQ, jQ, jQ, zeJ, zeJ]
  show 2 + 7 + (2 + lab.length + 0) = _
  omega
 have hln : (zdj [zwQ, lab] ++ zdj ts).length ≤ 1048576 := by rw [jQ]; omega
 refine vFn (k0 := 1) (rs := [.cell 6 23, .tmp 7]) (svs := [.a (.agg [.key kk]), zix (.string s), .a (.s (.p (.hd 0 ts.length)))]) (R0 := [.sl 0 ts.length (SlF zax ts), .c (zc7 gt 2)]) (hnQ [q]) Tryz.ntmps41 Tryz.func41 rfl rfl rfl rfl rfl zaw (by kernel_rfl) hX (fun r hr => by
  rcases List.mem_cons.1 hr with rfl | hr
  ·exact hL
  ·rcases List.mem_singleton.1 hr with rfl; exact hG) ?_
 conv => whnf
 refine za4 (zgb (i := 3) (n := 7) (e := 5) rfl rfl rfl (by kernel_rfl) (by kernel_rfl)) ?_
 conv => whnf
 refine zcm (zvK (e := 5) lab rfl rfl (by kernel_rfl) (by kernel_rfl) (by kernel_rfl) hs (by omega)) rfl rfl ?_
 conv => whnf
 obtain ⟨t1, ht1⟩ : ∃ t1, t1 = [] ++ zdj [zwQ, lab] := ⟨_, rfl⟩
 have ht1e : t1 = zdj [zwQ, lab] := by rw [ht1, List.nil_append]
 refine za0 (zbe [5] rfl rfl (zaI (sv := .tup [.s (.p (.hd 6 t1.length)), .s (.p (.v (.int .i64 0)))]) (rs := [.gone]) (Rs := [.sl 6 t1.length (TxG t1)]) (zaj (sv := .tup [.s (.p (.hd 0 t1.length)), .s (.p (.v (.int .i64 0)))]) (rs := [.gone]) (Rs := [.sl 0 t1.length (TxG t1)]) rfl rfl rfl (by kernel_rfl) rfl fun h X w H => ?_) rfl rfl)) ?_
 ·have h5 := H.fact 0 rfl
  have h3 := H.fact 2 rfl
  have := zoc (m0 := []) (ts := [zwQ, lab]) (q := (none, 0)) (q2 := (some ⟨h.b 5, 0, none⟩, 2)) (zAe hlab) (by simp) (by simp) H.xk znt (zdJ (ql := [(some ⟨h.b 3, 0, none⟩, 7), h.r 4]) rfl (by simp) h5 fun t x hx => by
   match t with
   | 0 => obtain rfl := Option.some.inj hx; exact zhC h3 rfl (jV _) (by decide) (by decide)
   | 1 => obtain rfl := Option.some.inj hx; exact zgy (H.fact 1 rfl)
   | t + 2 => simp at hx)
  rw [← ht1] at this
  exact this
 conv => whnf
 refine .inl ?_
 conv => whnf
 obtain ⟨t2, ht2⟩ : ∃ t2, t2 = t1 ++ zdj ts := ⟨_, rfl⟩
 refine zak (sv := .tup [.s (.p (.hd 0 t2.length)), .s (.p (.v (.int .i64 0)))]) (rs := [.gone]) (Rs := [.sl 0 t2.length (TxG t2)]) rfl rfl rfl (by kernel_rfl) (fun h X w H => by
  have := zoc (m0 := t1) (ts := ts) (q := h.r 6) (q2 := h.r 0) (zuf hts) (by rw [ht1e]; omega) (by omega) H.xk (H.fact 0 rfl) (H.fact 4 rfl)
  rw [← ht2] at this
  exact this) rfl rfl rfl ?_
 conv => whnf
 refine zak (sv := .tup [.s (.p (.hd 0 32)), .s (.p (.v (.int .i64 0)))]) (rs := [.gone]) rfl rfl rfl (by kernel_rfl) (fun h X w H => ztM (n := 32) hk32 hkb (by decide) (by rw [ht2, ht1e]; exact hln) H.xk (H.fact 0 rfl) (H.fact 6 rfl)) rfl rfl rfl ?_
 conv => whnf
 refine zbE (zyB 0 rfl (by rw [zj9]; decide) rfl (by kernel_rfl) rfl (by decide)) rfl rfl ?_
 conv => whnf
 refine zbE (zyC 0 rfl (by rw [zj9]; decide) rfl rfl (by kernel_rfl)) rfl rfl ?_
 conv => whnf
 refine zaF ?_
 rw [ht2, ht1e, zwR]
 rfl
end
end
section
open Go.RowKit
def zod (kk : List Nat) : List Nat := zqJ (za2 (zdO (fun i => kk.getD i 0) 9))
theorem zug (kk : List Nat) : (zod kk).length = 32 := zwc _
theorem zqZ (kk : List Nat) : ∀ x ∈ zod kk, x < 256 := fun x hx => by
 obtain ⟨i, _, rfl⟩ := List.mem_map.1 hx
 exact zjS _ _
def zCd : List Nat := [112, 97, 105, 114]
def zAf (gt : Nat → Nat) (seed : List Nat) : List Nat := zfZ gt seed zCd []
section
variable {X : List Nat} {w : World} {kk : List Nat} {gt : Nat → Nat}
theorem zAg (hX : ∀ k ∈ X, k < w.heap.size) (hk : ∀ x ∈ kk, x < 256) : Ct Tryz.prog 72 [.agg (ca [.key kk])] X w (.a (.agg [.key (zod kk)])) [] [] := by
 have e9 : zmY (fun i => ([9] : List Nat).getD i 0) = 9 := by
  rw [show (fun i => ([9] : List Nat).getD i 0) = fun i => if i = 0 then 9 else 0 from funext fun i => by cases i <;> rfl]
  exact zts
 refine vFn (k0 := 0) (rs := [.cell 2 23]) (svs := [.a (.agg [.key kk])]) (R0 := []) (hnQ []) Tryz.ntmps72 Tryz.func72 rfl rfl rfl rfl rfl zaw (by kernel_rfl) hX (fun r hr => by cases hr) ?_
 conv => whnf
 refine zCu (.a (.agg [.key [9]])) (fun h w => zhE (n := 32) (z := [.one (bv 0), .row 31 fun _ => bv 0]) [.key [9]] rfl (by kernel_rfl) (by kernel_rfl) ⟨_, [.one _], 0, _, rfl, rfl, rfl, rfl, rfl⟩ (by kernel_rfl)) rfl rfl ?_
 conv => whnf
 refine zak rfl rfl rfl (by kernel_rfl) (fun h X w H => zzw (kk := kk) (uu := [9]) H.xk hk (by decide)) rfl rfl rfl ?_
 rw [e9]
 conv => whnf
 exact zaF rfl
theorem zq0 {s : ByteArray} {lab : List Nat} (hs : s.data.toList.map UInt8.toNat = lab) (hlab : lab.length ≤ 100) (hk32 : kk.length = 32) (hkb : ∀ x ∈ kk, x < 256) (hX : ∀ k ∈ X, k < w.heap.size) (hG : St (zc7 gt 2) w X) : Ct Tryz.prog 71 [.agg (ca [.key kk]), .string s] X w (.a (.agg [.key (zfZ gt kk lab [])])) [] [] := by
 refine vFn (k0 := 0) (rs := [.cell 4 23]) (svs := [.a (.agg [.key kk]), zix (.string s)]) (R0 := [.c (zc7 gt 2)]) (hnQ []) Tryz.ntmps71 Tryz.func71 rfl rfl rfl rfl rfl zaw (by kernel_rfl) hX (fun r hr => by rcases List.mem_singleton.1 hr with rfl; exact hG) ?_
 conv => whnf
 refine zak rfl rfl rfl (by kernel_rfl) (fun h X w H => zfW (ts := []) (q := (none, 0)) hs hlab hk32 hkb zcQ H.xk zcn (H.fact 0 rfl)) rfl rfl rfl ?_
 conv => whnf
 exact zaF rfl
theorem zAh (hk32 : kk.length = 32) (hkb : ∀ x ∈ kk, x < 256) (hX : ∀ k ∈ X, k < w.heap.size) (hG : St (zc7 gt 2) w X) : Ct Tryz.prog 42 [.agg (ca [.key kk])] X w (.tup [.agg [.key (zAf gt kk)], .agg [.key (zod (zAf gt kk))]]) [] [] := by
 refine vFn (k0 := 0) (rs := [.cell 2 23, .cell 3 23]) (svs := [.a (.agg [.key kk])]) (R0 := [.c (zc7 gt 2)]) (hnQ []) Tryz.ntmps42 Tryz.func42 rfl rfl rfl rfl rfl zaw (by kernel_rfl) hX (fun r hr => by rcases List.mem_singleton.1 hr with rfl; exact hG) ?_
 conv => whnf
 refine zak rfl rfl rfl (by kernel_rfl) (fun h X w H => zq0 (lab := zCd) rfl (by decide) hk32 hkb H.xk (H.fact 0 rfl)) rfl rfl rfl ?_
 conv => whnf
 refine zbd 3 [] (by kernel_rfl) ?_
 conv => whnf
 refine za3 (zaj (rs := []) (Rs := []) rfl rfl rfl (by kernel_rfl) rfl fun h X w H => zAg H.xk (zdC _ _ _ _)) ?_
 conv => whnf
 exact zaF rfl
end
end
section
open Go.RowKit
section
variable {X : List Nat} {w : World} {kk : List Nat} {gt : Nat → Nat} {q : Qd}
theorem zuh {W n b : Nat} (h1 : 1 ≤ W) (h8 : W ≤ 8) (hn : n < 18446744073709551616) (hf : n < 256 ^ W) (hX : ∀ k ∈ X, k < w.heap.size) (hb : St (AtC ⟨b, 0, none⟩ [.one (.int .u64 ((n : Nat) : Int))]) w X) : Ct Tryz.prog 40 [.slice none 0 0, .int .i64 W, .slice (some ⟨b, 0, none⟩) 1 1] X w (.tup [.s (.p (.hd 0 (beL W n).length)), .s (.p (.v (.int .i64 0)))]) [.gone] [.sl 0 (beL W n).length (TxG (beL W n))] := by
 have hc : w.cell? ⟨b, 0, none⟩ = some (.int .u64 ((n : Nat) : Int)) := by have := hb.now 0 _ rfl; rwa [zau] at this
 refine (zzM none 0 0 [] (by omega) W n h1 h8 hn hf b w (World.block_lt_of_cell? _ _ hc) hc (TxF.nil_ (w := w)).txt).mono ?_
 rintro e w2 ⟨v, rfl, ho, hbl⟩
 rw [List.nil_append] at ho
 obtain ⟨A', c', rfl, h2⟩ := znh (X := X) hX ho hbl
 have h3 := h2.rowTx (Sep.new_x h2) (by simp [beL, beK]; omega) (ztI _ _)
 refine ⟨hnQ [(A', c')], rfl, h3.refacts fun r hr => ?_⟩
 rcases List.mem_singleton.1 hr with rfl
 exact (h3.facts _ (List.mem_cons_self ..)).imp fun w2 hw => ⟨fun e => (hw.nil e).1, hw⟩
def zui : List Nat := [115, 101, 110, 100, 101, 114]
def zmP (gt : Nat → Nat) (app : List Nat) (n : Nat) : List Nat := zfZ gt app zui [beL 4 n]
def zCe (chain : List Nat) (g : Nat) (x : SP) : SA := .agg [.key chain, .one (.p (.v (.int .u64 ((g : Nat) : Int)))), .one (.p x)]
def zCf : SP := .v (.slice none 0 0)
theorem zuj {t : List Nat} (h : t.length ≤ 1000) : zmO [t] := ⟨by show 1 ≤ 100; decide, fun x hx => by rcases List.mem_singleton.1 hx with rfl; exact h⟩
theorem zim {n : Nat} (hn : n ≤ 1048576) (hk32 : kk.length = 32) (hkb : ∀ x ∈ kk, x < 256) (hX : ∀ k ∈ X, k < w.heap.size) (hG : St (zc7 gt 2) w X) : Ct Tryz.prog 15 [.agg (ca [.key kk]), .int .i64 n] X w (.tup [zCe (zmP gt kk n) 0 zCf, .s (.p (.v (.int .i64 0)))]) [] [] := by
 refine vFn (k0 := 0) (rs := [.cell 4 46, .tmp 5]) (svs := [.a (.agg [.key kk]), zaH .i64 n]) (R0 := [.c (zc7 gt 2)]) (hnQ []) Tryz.ntmps15 Tryz.func15 rfl rfl rfl rfl rfl zaw (by kernel_rfl) hX (fun r hr => by rcases List.mem_singleton.1 hr with rfl; exact hG) ?_
 conv => whnf
 refine vF (decide_eq_false (by omega)) ?_
 conv => whnf
 refine zCR (by omega) (by omega) ?_
 conv => whnf
 obtain ⟨nb, hnb⟩ : ∃ nb, nb = beL 4 n := ⟨_, rfl⟩
 have hnl : nb.length = 4 := by rw [hnb]; simp [beL, beK]
 refine za0 (zbe [2] rfl rfl (zaI (sv := .tup [.s (.p (.hd 3 nb.length)), .s (.p (.v (.int .i64 0)))]) (rs := [.gone]) (Rs := [.sl 3 nb.length (TxG nb)]) (zaj (sv := .tup [.s (.p (.hd 0 nb.length)), .s (.p (.v (.int .i64 0)))]) (rs := [.gone]) (Rs := [.sl 0 nb.length (TxG nb)]) rfl rfl rfl (by kernel_rfl) rfl fun h X w H => ?_) rfl rfl)) ?_
 ·rw [hnb]
  exact zuh (W := 4) (n := n) (b := h.b 2) (by decide) (by decide) (by omega) (by omega) H.xk (H.fact 0 rfl)
 conv => whnf
 refine za4 (zbe [4] rfl rfl (zaI (rs := []) (Rs := []) (zaj (rs := []) (Rs := []) rfl rfl rfl (by kernel_rfl) rfl fun h X w H => zfW (lab := zui) (ts := [nb]) (q := (some ⟨h.b 4, 0, none⟩, 1)) rfl (by decide) hk32 hkb (zuj (by omega)) H.xk (zdJ (ql := [h.r 3]) rfl (by simp) (H.fact 0 rfl) fun t x hx => by
  match t with
  | 0 => obtain rfl := Option.some.inj hx; exact zgy (H.fact 1 rfl)
  | t + 1 => simp at hx) (H.fact 3 rfl)) rfl rfl)) ?_
 conv => whnf
 refine zaF ?_
 rw [hnb]
 rfl
theorem zwS {z : Int} (hz : z < 0 ∨ z > 1048576) (hX : ∀ k ∈ X, k < w.heap.size) : Ct Tryz.prog 15 [.agg (ca [.key kk]), .int .i64 z] X w (.tup [zCe [] 0 zCf, .s (.p (.v (.int .i64 1)))]) [] [] := by
 refine vFn (k0 := 0) (rs := [.cell 4 46, .tmp 5]) (svs := [.a (.agg [.key kk]), zaH .i64 z]) (R0 := []) (hnQ []) Tryz.ntmps15 Tryz.func15 rfl rfl rfl rfl rfl zaw (by kernel_rfl) hX (fun r hr => by cases hr) ?_
 conv => whnf
 refine vIf (fun h => ?_) fun h => ?_
 ·conv => whnf
  exact zaF rfl
 ·have h1 : ¬ z < 0 := of_decide_eq_false h
  conv => whnf
  refine vT (decide_eq_true (by omega)) ?_
  conv => whnf
  exact zaF rfl
def epS (n : Nat) (a b c d e : List Nat) : SA := .agg [.one (.p (.v (.int .u64 ((n : Nat) : Int)))), .key a, .key b, .key c, .key d, .key e]
def epC (n : Nat) (a b c d e : List Nat) : List Chunk := [.one (.int .u64 ((n : Nat) : Int)), .key a, .key b, .key c, .key d, .key e]
theorem zin {n : Nat} {a b c d e : List Nat} (hX : ∀ k ∈ X, k < w.heap.size) : Ct Tryz.prog 58 [.agg (ca (epC n a b c d e))] X w (zaH .i64 (if n ≤ 1099511627776 then 0 else 1)) [] [] := by
 refine vFn (k0 := 0) (rs := [.tmp 2]) (svs := [.a (epS n a b c d e)]) (R0 := []) (hnQ []) Tryz.ntmps58 Tryz.func58 rfl rfl rfl rfl rfl zaw (by kernel_rfl) hX (fun r hr => by cases hr) ?_
 conv => whnf
 refine vIf (fun h => ?_) fun h => ?_
 ·have h1 : (n : Int) > 1099511627776 := of_decide_eq_true h
  conv => whnf
  rw [if_neg (by omega)]
  exact zaF rfl
 ·have h1 : ¬ (n : Int) > 1099511627776 := of_decide_eq_false h
  conv => whnf
  rw [if_pos (by omega)]
  exact zaF rfl
def erF (b : Nat) (w : World) : Prop := hdF [.one (.int .i64 0)] 38 b w
def erR : List SF := [.b 0 (hdF [.one (.int .i64 0)] 38), .blk 0 [.one (.p (.v (.int .i64 0)))]]
theorem zio {b : Nat} {s : ByteArray} {lab : List Nat} {ts : List (List Nat)} (hs : s.data.toList.map UInt8.toNat = lab) (hlab : lab.length ≤ 100) (hk32 : kk.length = 32) (hkb : ∀ x ∈ kk, x < 256) (hts : zmO ts) (hX : ∀ k ∈ X, k < w.heap.size) (hL : St (SlQ zax ts q) w X) (hG : St (zc7 gt 2) w X) (hr : St (erF b) w X) : Ct Tryz.prog 59 [.agg (ca [.key kk]), .string s, .slice q.1 ts.length q.2, .pointer (some ⟨b, 0, none⟩)] X w (.a (.agg [.key (zfZ gt kk lab ts)])) [] [] := by
 refine vFn (k0 := 2) (rs := [.cell 7 23]) (svs := [.a (.agg [.key kk]), zix (.string s), .a (.s (.p (.hd 1 ts.length))), atS 0 0]) (R0 := erR ++ [.sl 1 ts.length (SlF zax ts), .c (zc7 gt 2)]) (hnB [b] [(none, 0), q]) Tryz.ntmps59 Tryz.func59 rfl rfl rfl rfl rfl zaw (by kernel_rfl) hX (fun r h => by
  rcases List.mem_cons.1 h with rfl | h
  ·exact hr
  rcases List.mem_cons.1 h with rfl | h
  ·exact hr.imp fun w' hw => zxh hw
  rcases List.mem_cons.1 h with rfl | h
  ·exact hL
  ·rcases List.mem_singleton.1 h with rfl; exact hG) ?_
 conv => whnf
 refine .inl ?_
 conv => whnf
 refine zak rfl rfl rfl (by kernel_rfl) (fun h X w H => zfW hs hlab hk32 hkb hts H.xk (H.fact 2 rfl) (H.fact 3 rfl)) rfl rfl rfl ?_
 conv => whnf
 refine za4 (zsL 0 rfl rfl rfl rfl rfl (by kernel_rfl)) ?_
 conv => whnf
 exact zaF rfl
def zuk : List Nat := [101, 112, 111, 99, 104]
def zwT : List Nat := [105, 110, 105, 116]
def zAE : List Nat := [97, 112, 112]
def zhh : List Nat := [99, 111, 110, 102, 105, 114, 109]
def zkm : List Nat := [109, 101, 109, 98, 101, 114]
def zqd (gt : Nat → Nat) (j : List Nat) (n : Nat) (tree hash : List Nat) : List Nat := zfZ gt j zuk [beL 8 n, tree, hash]
def zxE (gt : Nat → Nat) (k : List Nat) (n : Nat) (hash : List Nat) : SA := epS n (zfZ gt k zwT []) (zfZ gt k zAE []) (zfZ gt k zhh []) (zfZ gt k zkm []) hash
theorem zwU {n : Nat} {tree hash : List Nat} (hn : n ≤ 1099511627776) (hk32 : kk.length = 32) (hkb : ∀ x ∈ kk, x < 256) (ht32 : tree.length = 32) (htb : ∀ x ∈ tree, x < 256) (hh32 : hash.length = 32) (hhb : ∀ x ∈ hash, x < 256) (hX : ∀ k ∈ X, k < w.heap.size) (hG : St (zc7 gt 2) w X) : Ct Tryz.prog 33 [.agg (ca [.key kk]), .int .u64 n, .agg (ca [.key tree]), .agg (ca [.key hash])] X w (.tup [zxE gt (zqd gt kk n tree hash) n hash, .s (.p (.v (.int .i64 0)))]) [] [] := by
 refine vFn (k0 := 0) (rs := [.cell 8 34, .tmp 9]) (svs := [.a (.agg [.key kk]), zaH .u64 n, .a (.agg [.key tree]), .a (.agg [.key hash])]) (R0 := [.c (zc7 gt 2)]) (hnQ []) Tryz.ntmps33 Tryz.func33 rfl rfl rfl rfl rfl zaw (by kernel_rfl) hX (fun r hr => by rcases List.mem_singleton.1 hr with rfl; exact hG) ?_
 conv => whnf
 refine zak (sv := zaH .i64 0) (rs := []) (Rs := []) rfl rfl rfl (by kernel_rfl) (fun h X w H => by
  have := zin (n := n) (a := []) (b := []) (c := []) (d := []) (e := hash) H.xk
  rw [if_pos hn] at this
  exact this) rfl rfl rfl ?_
 conv => whnf
 obtain ⟨nb, hnb⟩ : ∃ nb, nb = beL 8 n := ⟨_, rfl⟩
 have hnl : nb.length = 8 := by rw [hnb]; simp [beL, beK]
 refine za0 (zbe [5] rfl rfl (zaI (sv := .tup [.s (.p (.hd 6 nb.length)), .s (.p (.v (.int .i64 0)))]) (rs := [.gone]) (Rs := [.sl 6 nb.length (TxG nb)]) (zaj (sv := .tup [.s (.p (.hd 0 nb.length)), .s (.p (.v (.int .i64 0)))]) (rs := [.gone]) (Rs := [.sl 0 nb.length (TxG nb)]) rfl rfl rfl (by kernel_rfl) rfl fun h X w H => ?_) rfl rfl)) ?_
 ·rw [hnb]
  exact zuh (W := 8) (n := n) (b := h.b 5) (by decide) (by decide) (by omega) (by omega) H.xk (H.fact 0 rfl)
 conv => whnf
 obtain ⟨k, hkk⟩ : ∃ k, k = zfZ gt kk zuk [nb, tree, hash] := ⟨_, rfl⟩
 have hkl : k.length = 32 := by rw [hkk]; exact zfV _ _ _ _
 have hkb2 : ∀ x ∈ k, x < 256 := by rw [hkk]; exact zdC _ _ _ _
 refine zbd 8 [] (by kernel_rfl) ?_
 conv => whnf
 refine za3 (zdx (cs0 := [.one (.int .i64 0)]) 7 rfl (fun _ => rfl) (zk6 [8, 2, 1] rfl (zck (sv := .a (.agg [.key k])) (rs := []) (Rs := []) (fs := fun _ => []) (cs := fun h => [.pointer (some ⟨h.b 7, 0, none⟩)]) rfl rfl rfl (by kernel_rfl) rfl (fun h => rfl) fun h X w H => ?_))) ?_
 ·rw [hkk]
  refine zio (lab := zuk) (ts := [nb, tree, hash]) (q := (some ⟨h.b 8, 0, none⟩, 3)) rfl (by decide) hk32 hkb ⟨by show 3 ≤ 100; decide, fun x hx => ?_⟩ H.xk (zdJ (ql := [h.r 6, (some ⟨h.b 1, 0, none⟩, 32), (some ⟨h.b 2, 0, none⟩, 32)]) rfl (by simp) ?_ fun t x hx => ?_) (H.fact 7 rfl) (H.fact 3 rfl)
  ·rcases List.mem_cons.1 hx with rfl | hx
   ·omega
   rcases List.mem_cons.1 hx with rfl | hx
   ·omega
   ·rcases List.mem_singleton.1 hx with rfl; omega
  ·have := H.fact 2 rfl
   have e : zay h [.one (.p (.hd 6 nb.length)), .one (.p (.sl 1 0 32 32)), .one (.p (.sl 2 0 32 32))] = zdf [nb, tree, hash] [h.r 6, (some ⟨h.b 1, 0, none⟩, 32), (some ⟨h.b 2, 0, none⟩, 32)] := by
    simp only [zdf, ht32, hh32]
    rfl
   rw [← e]
   exact this
  ·match t with
   | 0 => obtain rfl := Option.some.inj hx; exact zgy (H.fact 5 rfl)
   | 1 => obtain rfl := Option.some.inj hx; exact zka ht32 htb (H.fact 0 rfl)
   | 2 => obtain rfl := Option.some.inj hx; exact zka hh32 hhb (H.fact 1 rfl)
   | t + 3 => simp at hx
 conv => whnf
 refine zeT (zdx (cs0 := [.one (.int .i64 0)]) 7 rfl (fun _ => rfl) (zck (sv := .a (.agg [.key (zfZ gt k zwT [])])) (rs := []) (Rs := []) (fs := fun _ => []) (cs := fun h => [.pointer (some ⟨h.b 7, 0, none⟩)]) rfl rfl rfl (by kernel_rfl) rfl (fun h => rfl) fun h X w H => zio (lab := zwT) (ts := []) (q := (none, 0)) rfl (by decide) hkl hkb2 zcQ H.xk zcn (H.fact 4 rfl) (H.fact 0 rfl))) rfl rfl ?_
 conv => whnf
 refine zeT (zdx (cs0 := [.one (.int .i64 0)]) 7 rfl (fun _ => rfl) (zck (sv := .a (.agg [.key (zfZ gt k zAE [])])) (rs := []) (Rs := []) (fs := fun _ => []) (cs := fun h => [.pointer (some ⟨h.b 7, 0, none⟩)]) rfl rfl rfl (by kernel_rfl) rfl (fun h => rfl) fun h X w H => zio (lab := zAE) (ts := []) (q := (none, 0)) rfl (by decide) hkl hkb2 zcQ H.xk zcn (H.fact 4 rfl) (H.fact 0 rfl))) rfl rfl ?_
 conv => whnf
 refine zeT (zdx (cs0 := [.one (.int .i64 0)]) 7 rfl (fun _ => rfl) (zck (sv := .a (.agg [.key (zfZ gt k zhh [])])) (rs := []) (Rs := []) (fs := fun _ => []) (cs := fun h => [.pointer (some ⟨h.b 7, 0, none⟩)]) rfl rfl rfl (by kernel_rfl) rfl (fun h => rfl) fun h X w H => zio (lab := zhh) (ts := []) (q := (none, 0)) rfl (by decide) hkl hkb2 zcQ H.xk zcn (H.fact 4 rfl) (H.fact 0 rfl))) rfl rfl ?_
 conv => whnf
 refine zeT (zdx (cs0 := [.one (.int .i64 0)]) 7 rfl (fun _ => rfl) (zck (sv := .a (.agg [.key (zfZ gt k zkm [])])) (rs := []) (Rs := []) (fs := fun _ => []) (cs := fun h => [.pointer (some ⟨h.b 7, 0, none⟩)]) rfl rfl rfl (by kernel_rfl) rfl (fun h => rfl) fun h X w H => zio (lab := zkm) (ts := []) (q := (none, 0)) rfl (by decide) hkl hkb2 zcQ H.xk zcn (H.fact 4 rfl) (H.fact 0 rfl))) rfl rfl ?_
 conv => whnf
 refine zaF ?_
 rw [zqd, ← hnb, ← hkk]
 rfl
end
end
section
open Go.RowKit
def zCg : List Nat := [110, 111, 100, 101]
def zmQ (gt : Nat → Nat) (s : List Nat) : List Nat := zod (zAf gt (zfZ gt s zCg []))
def zdQ : Ty (Nat × List Nat) where
 μ := Unit
 dft := ()
 sz := 33
 pos := by decide
 ch x _ := [.one (.int .u64 ((x.1 : Nat) : Int)), .key x.2]
 nest _ _ _ := True
 len _ _ := rfl
 one _ _ := ⟨rfl, trivial⟩
instance : Dec zdQ := ⟨fun _ => (), fun _ => [], fun _ => rfl⟩
structure Rat where
 chain : List Nat
 gen : Nat
 left : List (Nat × List Nat)
def zf0 : Ty Rat where
 μ := Qd
 dft := (none, 0)
 sz := 34
 pos := by decide
 ch r q := [.key r.chain, .one (.int .u64 ((r.gen : Nat) : Int)), .one (.slice q.1 r.left.length q.2)]
 nest r q := SlQ zdQ r.left q
 len _ _ := rfl
 one _ _ := ⟨rfl, rfl, trivial⟩
instance : Dec zf0 := ⟨fun l => qs l 0, fun m => [m], fun _ => rfl⟩
def zen (gt : Nat → Nat) (app : List Nat) (id : Int) : Rat := ⟨zmP gt app id.toNat, 0, []⟩
def zq1 (id : Int) : Prop := 0 ≤ id ∧ id ≤ 1048576
section
variable {X : List Nat} {w : World} {kk : List Nat} {gt : Nat → Nat} {q : Qd}
theorem zgs {s : ByteArray} {lab : List Nat} (hs : s.data.toList.map UInt8.toNat = lab) (hlab : lab.length ≤ 100) (hk32 : kk.length = 32) (hkb : ∀ x ∈ kk, x < 256) (hX : ∀ k ∈ X, k < w.heap.size) (hG : St (zc7 gt 2) w X) : Ct Tryz.prog 31 [.agg (ca [.key kk]), .string s] X w (.a (.agg [.key (zfZ gt kk lab [])])) [] [] := by
 refine vFn (k0 := 0) (rs := [.cell 4 23]) (svs := [.a (.agg [.key kk]), zix (.string s)]) (R0 := [.c (zc7 gt 2)]) (hnQ []) Tryz.ntmps31 Tryz.func31 rfl rfl rfl rfl rfl zaw (by kernel_rfl) hX (fun r hr => by rcases List.mem_singleton.1 hr with rfl; exact hG) ?_
 conv => whnf
 refine zak rfl rfl rfl (by kernel_rfl) (fun h X w H => zfW (ts := []) (q := (none, 0)) hs hlab hk32 hkb zcQ H.xk zcn (H.fact 0 rfl)) rfl rfl rfl ?_
 conv => whnf
 exact zaF rfl
theorem zwV (hk32 : kk.length = 32) (hkb : ∀ x ∈ kk, x < 256) (hX : ∀ k ∈ X, k < w.heap.size) (hG : St (zc7 gt 2) w X) : Ct Tryz.prog 16 [.agg (ca [.key kk])] X w (.a (.agg [.key (zmQ gt kk)])) [] [] := by
 refine vFn (k0 := 0) (rs := [.cell 2 23]) (svs := [.a (.agg [.key kk])]) (R0 := [.c (zc7 gt 2)]) (hnQ []) Tryz.ntmps16 Tryz.func16 rfl rfl rfl rfl rfl zaw (by kernel_rfl) hX (fun r hr => by rcases List.mem_singleton.1 hr with rfl; exact hG) ?_
 conv => whnf
 refine zak rfl rfl rfl (by kernel_rfl) (fun h X w H => zgs (lab := zCg) rfl (by decide) hk32 hkb H.xk (H.fact 0 rfl)) rfl rfl rfl ?_
 conv => whnf
 refine zak rfl rfl rfl (by kernel_rfl) (fun h X w H => zAh (zfV _ _ _ _) (zdC _ _ _ _) H.xk (H.fact 0 rfl)) rfl rfl rfl ?_
 conv => whnf
 exact zaF rfl
def zeO (gt : Nat → Nat) (app : List Nat) (ids : List Int) : List Rat := ids.map (zen gt app)
theorem zmR {gt : Nat → Nat} {app : List Nat} {ids : List Int} {i : Nat} {id : Int} (h : ids[i]? = some id) : zeO gt app (ids.take (i + 1)) = zeO gt app (ids.take i) ++ [zen gt app id] := by
 unfold zeO
 rw [List.take_add_one, h, List.map_append]
 rfl
theorem zi9 {ids : List Int} (hall : ∀ id ∈ ids, zq1 id) (hil : ids.length ≤ 1000000) (hk32 : kk.length = 32) (hkb : ∀ x ∈ kk, x < 256) (hX : ∀ k ∈ X, k < w.heap.size) (hq : St (SlQ zaS ids q) w X) (hG : St (zc7 gt 2) w X) : Ct Tryz.prog 11 [.agg (ca [.key kk]), .slice q.1 ids.length q.2] X w (.tup [.s (.p (.hd 0 ids.length)), .s (.p (.v (.int .i64 0)))]) [zbF zf0 (zeO gt kk ids) 46] [.q 0 (zdd zf0 (zeO gt kk ids))] := by
 refine vFn (k0 := 1) (rs := [.tmp 4, .tmp 5]) (svs := [.a (.agg [.key kk]), .a (.s (.p (.hd 0 ids.length)))]) (R0 := [.sl 0 ids.length (SlF zaS ids), .c (zc7 gt 2)]) (hnQ [q]) Tryz.ntmps11 Tryz.func11 rfl rfl rfl rfl rfl zaw (by kernel_rfl) hX (fun r hr => by
  rcases List.mem_cons.1 hr with rfl | hr
  ·exact hq
  ·rcases List.mem_singleton.1 hr with rfl; exact hG) ?_
 conv => whnf
 refine ⟨Nat, fun k l m R i => ⟨3, (12, zaH .i64 i) :: (4, .a (.s (.p (.hd 2 i)))) :: zbV [2, 10, 11] l, (2, zbF zf0 (zeO gt kk (ids.take i)) 46) :: m, .q 2 (zdd zf0 (zeO gt kk (ids.take i))) :: R⟩, fun i => i ≤ ids.length, fun i => ids.length - i, ⟨0, [], [2, 0, 1], Nat.zero_le _, zbW (hR := ⟨.inr fun _ _ _ _ => zfq, .inl rfl, .inl rfl, trivial⟩)⟩, fun i hi => ?_⟩
 conv => whnf
 refine vIf (fun hc => ?_) fun hc => ?_
 ·have hi2 : i < ids.length := by
   have : (i : Int) < ((ids.length : Nat) : Int) := of_decide_eq_true hc
   omega
  obtain ⟨id, hid⟩ : ∃ id, ids[i]? = some id := ⟨_, jP hi2⟩
  obtain ⟨h0, h1⟩ := hall id (List.mem_of_getElem? hid)
  have hidn : id = ((id.toNat : Nat) : Int) := by omega
  have hrl : (zeO gt kk (ids.take i)).length = i := by unfold zeO; rw [List.length_map, List.length_take]; omega
  conv => whnf
  refine ⟨i, ⟨rfl, hi2, hi2⟩, ?_⟩
  conv => whnf
  refine zbE (zbr (T := zaS) (sv := zaH .i64 id) 1 hid (fun _ => rfl) rfl rfl rfl (by kernel_rfl) (fun _ => .inr ⟨rfl, rfl, rfl⟩)) rfl rfl ?_
  conv => whnf
  refine zak (sv := .tup [zCe (zmP gt kk id.toNat) 0 zCf, .s (.p (.v (.int .i64 0)))]) (rs := []) (Rs := []) rfl rfl rfl (by kernel_rfl) (fun h X w H => by
   have := zim (gt := gt) (n := id.toNat) (by omega) hk32 hkb H.xk (H.fact 2 rfl)
   rw [← hidn] at this
   exact this) rfl rfl rfl ?_
  conv => whnf
  refine za0 (zhU (T := zf0) (e := 46) (x := zen gt kk id) (μs := fun _ => [(none, 0)]) (by_ := 64) rfl rfl rfl hrl.symm rfl rfl rfl (fun _ => rfl) ⟨by kernel_rfl, by kernel_rfl⟩ (by omega) (by omega) rfl rfl (.head _) (fun _ _ _ => rfl) fun h w Y _ => zcn) ?_
  rw [← zmR hid]
  conv => whnf
  refine zd6 (by omega) (by omega) ?_
  conv => whnf
  exact ⟨i + 1, [(0, 0), (1, 1), (2, 5)], [0, 2, 3], ⟨hi2, Nat.sub_lt_sub_left hi2 (Nat.lt_succ_self i)⟩, zbW⟩
 have hi5 : i = ids.length := by
   have : ¬ (i : Int) < ((ids.length : Nat) : Int) := of_decide_eq_false hc
   omega
 subst hi5
 rw [List.take_length]
 conv => whnf
 exact zaY [(0, 2)] [0] (.inl rfl) ⟨.inl rfl, trivial⟩ rfl ⟨.inl rfl, trivial⟩
theorem zum {ids : List Int} (hbad : ∃ id ∈ ids, ¬ zq1 id) (hil : ids.length ≤ 1000000) (hk32 : kk.length = 32) (hkb : ∀ x ∈ kk, x < 256) (hX : ∀ k ∈ X, k < w.heap.size) (hq : St (SlQ zaS ids q) w X) (hG : St (zc7 gt 2) w X) : Ct Tryz.prog 11 [.agg (ca [.key kk]), .slice q.1 ids.length q.2] X w (.tup [.s (.p (.v (.slice none 0 0))), .s (.p (.v (.int .i64 1)))]) [] [] := by
 refine vFn (k0 := 1) (rs := [.tmp 4, .tmp 5]) (svs := [.a (.agg [.key kk]), .a (.s (.p (.hd 0 ids.length)))]) (R0 := [.sl 0 ids.length (SlF zaS ids), .c (zc7 gt 2)]) (hnQ [q]) Tryz.ntmps11 Tryz.func11 rfl rfl rfl rfl rfl zaw (by kernel_rfl) hX (fun r hr => by
  rcases List.mem_cons.1 hr with rfl | hr
  ·exact hq
  ·rcases List.mem_singleton.1 hr with rfl; exact hG) ?_
 conv => whnf
 refine ⟨Nat, fun k l m R i => ⟨3, (12, zaH .i64 i) :: (4, .a (.s (.p (.hd 2 i)))) :: zbV [2, 10, 11] l, (2, zbF zf0 (zeO gt kk (ids.take i)) 46) :: m, .q 2 (zdd zf0 (zeO gt kk (ids.take i))) :: R⟩, fun i => i ≤ ids.length ∧ ∀ id ∈ ids.take i, zq1 id, fun i => ids.length - i, ⟨0, [], [2, 0, 1], ⟨Nat.zero_le _, by simp⟩, zbW (hR := ⟨.inr fun _ _ _ _ => zfq, .inl rfl, .inl rfl, trivial⟩)⟩, fun i hg => ?_⟩
 obtain ⟨hi, hpre⟩ : i ≤ ids.length ∧ ∀ id ∈ ids.take i, zq1 id := hg
 conv => whnf
 refine vIf (fun hc => ?_) fun hc => ?_
 ·have hi2 : i < ids.length := by
   have : (i : Int) < ((ids.length : Nat) : Int) := of_decide_eq_true hc
   omega
  obtain ⟨id, hid⟩ : ∃ id, ids[i]? = some id := ⟨_, jP hi2⟩
  by_cases hok : zq1 id
  case neg =>
   conv => whnf
   refine ⟨i, ⟨rfl, hi2, hi2⟩, ?_⟩
   conv => whnf
   refine zbE (zbr (T := zaS) (sv := zaH .i64 id) 1 hid (fun _ => rfl) rfl rfl rfl (by kernel_rfl) (fun _ => .inr ⟨rfl, rfl, rfl⟩)) rfl rfl ?_
   conv => whnf
   refine zak rfl rfl rfl (by kernel_rfl) (fun h X w H => zwS (by unfold zq1 at hok; omega) H.xk) rfl rfl rfl ?_
   conv => whnf
   exact zaF rfl
  obtain ⟨h0, h1⟩ := hok
  have hidn : id = ((id.toNat : Nat) : Int) := by omega
  have hrl : (zeO gt kk (ids.take i)).length = i := by unfold zeO; rw [List.length_map, List.length_take]; omega
  conv => whnf
  refine ⟨i, ⟨rfl, hi2, hi2⟩, ?_⟩
  conv => whnf
  refine zbE (zbr (T := zaS) (sv := zaH .i64 id) 1 hid (fun _ => rfl) rfl rfl rfl (by kernel_rfl) (fun _ => .inr ⟨rfl, rfl, rfl⟩)) rfl rfl ?_
  conv => whnf
  refine zak (sv := .tup [zCe (zmP gt kk id.toNat) 0 zCf, .s (.p (.v (.int .i64 0)))]) (rs := []) (Rs := []) rfl rfl rfl (by kernel_rfl) (fun h X w H => by
   have := zim (gt := gt) (n := id.toNat) (by omega) hk32 hkb H.xk (H.fact 2 rfl)
   rw [← hidn] at this
   exact this) rfl rfl rfl ?_
  conv => whnf
  refine za0 (zhU (T := zf0) (e := 46) (x := zen gt kk id) (μs := fun _ => [(none, 0)]) (by_ := 64) rfl rfl rfl hrl.symm rfl rfl rfl (fun _ => rfl) ⟨by kernel_rfl, by kernel_rfl⟩ (by omega) (by omega) rfl rfl (.head _) (fun _ _ _ => rfl) fun h w Y _ => zcn) ?_
  rw [← zmR hid]
  conv => whnf
  refine zd6 (by omega) (by omega) ?_
  conv => whnf
  refine ⟨i + 1, [(0, 0), (1, 1), (2, 5)], [0, 2, 3], ⟨⟨hi2, fun x hx => ?_⟩, Nat.sub_lt_sub_left hi2 (Nat.lt_succ_self i)⟩, zbW⟩
  rw [List.take_add_one, hid] at hx
  rcases List.mem_append.1 hx with hx | hx
  ·exact hpre x hx
  ·rcases List.mem_singleton.1 hx with rfl
   exact ⟨h0, h1⟩
 have hi5 : i = ids.length := by
   have : ¬ (i : Int) < ((ids.length : Nat) : Int) := of_decide_eq_false hc
   omega
 subst hi5
 rw [List.take_length] at hpre
 obtain ⟨id, h1, h2⟩ := hbad
 exact absurd (hpre id h1) h2
end
end
section
open Go.RowKit
def zoe : List Nat := [108, 101, 97, 102]
def zbh (kd id : Int) (p : List Nat) : Tre := ⟨kd, [id], [], [p]⟩
def ziq : Nd := ⟨0, 0, false, 0, 0 + 1, [], -1⟩
theorem zmS (kd id : Int) (p : List Nat) : (zbh kd id p).fits :=
 ⟨fun l h => (by cases h), (by show 0 ≤ 1000; decide), fun _ _ => ⟨0, rfl, by decide, by show 0 ≤ 1000000; decide⟩⟩
theorem zqe {kd id : Int} {p : List Nat} (hm : zg6 kd [id] [] = true) (hp : zc4 [] ≠ zc4 p) : (zbh kd id p).nodes = ([ziq], 0) := by
 have hall : (zbh kd id p).all = ([ziq], 0) := by
  unfold Tre.all zsB zbh
  rw [if_pos hm]
  rfl
 unfold Tre.nodes
 have : (zbh kd id p).ok = true := by
  unfold Tre.ok
  rw [hall]
  simp [zbh, hp]
 rw [if_pos this, hall]
def zfe (gt : Nat → Nat) (id : Int) (p : List Nat) : List Nat := zwg gt [zdj [zoe, beL 4 id.toNat, p]]
theorem zDv (a b c : List Nat) : (zdj [a, b, c]).length = 6 + a.length + b.length + c.length := by
 show ((beL 2 a.length ++ a) ++ ((beL 2 b.length ++ b) ++ ((beL 2 c.length ++ c) ++ []))).length = _
 simp only [jQ, zeJ, List.length_nil]
 omega
section
variable {X : List Nat} {w : World} {gt : Nat → Nat}
theorem zun {kd id : Int} {p : List Nat} (hm : zg6 kd [id] [] = true) (hp : zc4 [] ≠ zc4 p) (hid : zq1 id) (h32 : p.length = 32) (hpb : ∀ x ∈ p, x < 256) (hX : ∀ k ∈ X, k < w.heap.size) (q1 q2 q3 : Qd) (hq1 : St (SlQ zaS [id] q1) w X) (hq2 : St (SlQ (zfY zaS) [] q2) w X) (hq3 : St (SlQ zeQ [p] q3) w X) (hG : St (zc7 gt 2) w X) :
  Ct Tryz.prog 57 [(zbh kd id p).val q1 q2 q3] X w (.tup [.s (.p (.hd 0 1)), .s (.p (.v (.int .i64 0)))]) [zbF zeQ [zfe gt id p] 23] [] := by
 obtain ⟨n, rfl⟩ : ∃ n : Nat, id = n := ⟨id.toNat, by unfold zq1 at hid; omega⟩
 have hn : n ≤ 1048576 := by unfold zq1 at hid; omega
 refine vFn (k0 := 3) (rs := [.tmp 2, .tmp 3]) (svs := [.a (.agg [ze7 kd, .one (.p (.hd 0 1)), .one (.p (.hd 1 0)), .one (.p (.hd 2 1))])]) (R0 := [.sl 0 1 (SlF zaS [(n : Int)]), .sl 1 0 (SlF (zfY zaS) []), .sl 2 1 (SlF zeQ [p]), .c (zc7 gt 2)]) (hnQ [q1, q2, q3]) Tryz.ntmps57 Tryz.func57 rfl rfl rfl rfl rfl zaw (by kernel_rfl) hX (fun r hr => by
  rcases List.mem_cons.1 hr with rfl | hr
  ·exact hq1
  rcases List.mem_cons.1 hr with rfl | hr
  ·exact hq2
  rcases List.mem_cons.1 hr with rfl | hr
  ·exact hq3
  ·rcases List.mem_singleton.1 hr with rfl; exact hG) ?_
 conv => whnf
 refine zak (sv := .tup [.s (.p (.hd 0 1)), .s (.p (.v (.int .i64 0)))]) (rs := [.gone]) (Rs := [.sl 0 1 (SlF zbG [ziq])]) rfl rfl rfl (by kernel_rfl) (fun h X w H => by
  have := zk3 H.xk (zbh kd n p) (zmS kd n p) (h.r 0) (h.r 1) (h.r 2) (H.fact 0 rfl) (H.fact 1 rfl) (H.fact 2 rfl)
  rw [zqe hm hp] at this
  exact this) rfl rfl rfl ?_
 conv => whnf
 refine zcm (zxa (T := zeQ) (e := 23) (d := []) (c := [.key []]) (by_ := 32) (n := 1) ⟨by kernel_rfl, by kernel_rfl⟩ rfl rfl rfl rfl rfl rfl rfl (by decide) (by decide)) rfl rfl ?_
 conv => whnf
 obtain ⟨s, hs⟩ : ∃ s, s = zfe gt n p := ⟨_, rfl⟩
 rw [← hs]
 refine ⟨Nat, fun k l m R i => ⟨k, (29, zaH .i64 i) :: zbV [2, 3, 1, 6, 27, 28] l, (5, zbF zeQ [if i = 0 then [] else s] 23) :: m, R⟩, fun i => i ≤ 1, fun i => 1 - i, ⟨0, [], [0, 1, 2, 3, 4], by decide, zbW⟩, fun i hi => ?_⟩
 conv => whnf
 refine vIf (fun hc => ?_) fun hc => ?_
 ·have hi0 : i = 0 := by
   have : (i : Int) < 1 := of_decide_eq_true hc
   omega
  subst hi0
  conv => whnf
  refine ⟨0, ⟨rfl, by decide, by decide⟩, ?_⟩
  conv => whnf
  refine zcm (zf9 zpf (T := zbG) (x := ziq) (n := 7) (off := 0) (sub := [ze7 0, ze7 0, .one (.p (.v (.bool false))), ze7 0, ze7 1, .one (.p (.hd 6 0)), ze7 (-1)]) (Rs := []) 0 (fun μ => [μ]) 1 rfl rfl rfl rfl (by kernel_rfl) (.inl ⟨rfl, rfl⟩) (fun μ h hh => by
   have e : h.r 6 = μ := hh 0 (by omega)
   show some [Chunk.one (.int .i64 0), .one (.int .i64 0), .one (.bool false), .one (.int .i64 0), .one (.int .i64 (0 + 1)), .one (.slice μ.1 0 μ.2), .one (.int .i64 (-1))] = some _
   rw [← e]
   rfl) fun μ h w Y hh hn r hr => by cases hr) rfl rfl ?_
  conv => whnf
  refine za4 (zgb (i := 8) (n := 4) (e := 5) rfl rfl rfl (by kernel_rfl) (by kernel_rfl)) ?_
  conv => whnf
  refine ⟨0, ⟨rfl, by decide, by decide⟩, ?_⟩
  conv => whnf
  refine zcm (zmD (xs := [p]) (x := p) (j := 0) 4 rfl rfl h32 hpb rfl (by kernel_rfl) rfl) rfl rfl ?_
  conv => whnf
  refine .inl ?_
  conv => whnf
  refine ⟨0, ⟨rfl, by decide, by decide⟩, ?_⟩
  conv => whnf
  refine zbE (zbr (T := zaS) (xs := [(n : Int)]) (j := 0) (sv := zaH .i64 n) 3 rfl (fun _ => rfl) rfl rfl rfl (by kernel_rfl) (fun _ => .inr ⟨rfl, rfl, rfl⟩)) rfl rfl ?_
  conv => whnf
  refine zCR (by omega) (by omega) ?_
  conv => whnf
  obtain ⟨nb, hnb⟩ : ∃ nb, nb = beL 4 n := ⟨_, rfl⟩
  have hnl : nb.length = 4 := by rw [hnb]; simp [beL, beK]
  refine za0 (zbe [11] rfl rfl (zaI (sv := .tup [.s (.p (.hd 12 nb.length)), .s (.p (.v (.int .i64 0)))]) (rs := [.gone]) (Rs := [.sl 12 nb.length (TxG nb)]) (zaj (sv := .tup [.s (.p (.hd 0 nb.length)), .s (.p (.v (.int .i64 0)))]) (rs := [.gone]) (Rs := [.sl 0 nb.length (TxG nb)]) rfl rfl rfl (by kernel_rfl) rfl fun h X w H => ?_) rfl rfl)) ?_
  ·rw [hnb]
   exact zuh (W := 4) (n := n) (b := h.b 11) (by decide) (by decide) (by omega) (by omega) H.xk (H.fact 0 rfl)
  conv => whnf
  refine za4 (zgb (i := 13) (n := 4) (e := 5) rfl rfl rfl (by kernel_rfl) (by kernel_rfl)) ?_
  conv => whnf
  refine ⟨0, ⟨rfl, by decide, by decide⟩, ?_⟩
  conv => whnf
  refine zcm (zmD (xs := [p]) (x := p) (j := 0) 8 rfl rfl h32 hpb rfl (by kernel_rfl) rfl) rfl rfl ?_
  conv => whnf
  refine ⟨Unit, fun k l m R _ => ⟨k, (81, zaH .i64 0) :: zbV [2, 3, 1, 6, 7, 9, 27, 28, 29, 80] l, m, R⟩, fun _ => True, fun _ => 0, ⟨(), [], [0, 1, 2, 3, 4, 5, 6, 7, 8, 9, 10], trivial, zbW⟩, fun _ _ => ?_⟩
  conv => whnf
  obtain ⟨t1, ht1⟩ : ∃ t1, t1 = [] ++ zdj [zoe, nb, p] := ⟨_, rfl⟩
  have ht1e : t1 = zdj [zoe, nb, p] := by rw [ht1, List.nil_append]
  refine za0 (zbe [15] rfl rfl (zaI (sv := .tup [.s (.p (.hd 16 t1.length)), .s (.p (.v (.int .i64 0)))]) (rs := [.gone]) (Rs := [.sl 16 t1.length (TxG t1)]) (zaj (sv := .tup [.s (.p (.hd 0 t1.length)), .s (.p (.v (.int .i64 0)))]) (rs := [.gone]) (Rs := [.sl 0 t1.length (TxG t1)]) rfl rfl rfl (by kernel_rfl) rfl fun h X w H => ?_) rfl rfl)) ?_
  ·have h5 := H.fact 0 rfl
   have h3 := H.fact 2 rfl
   have e : zay h [.one (.p (.sl 13 0 4 4)), .one (.p (.hd 12 nb.length)), .one (.p (.hd 14 32))] = zdf [zoe, nb, p] [(some ⟨h.b 13, 0, none⟩, 4), h.r 12, h.r 14] := by
    simp only [zdf, h32]
    rfl
   have := zoc (m0 := []) (ts := [zoe, nb, p]) (q := (none, 0)) (q2 := (some ⟨h.b 15, 0, none⟩, 3)) (fun x hx => by
    rcases List.mem_cons.1 hx with rfl | hx
    ·decide
    rcases List.mem_cons.1 hx with rfl | hx
    ·omega
    ·rcases List.mem_singleton.1 hx with rfl; omega) (by simp) (by simp) H.xk znt (zdJ (ql := [(some ⟨h.b 13, 0, none⟩, 4), h.r 12, h.r 14]) rfl (by simp) (by rw [← e]; exact h5) fun t x hx => by
    match t with
    | 0 => obtain rfl := Option.some.inj hx; exact zhC h3 rfl (jV _) (by decide) (by decide)
    | 1 => obtain rfl := Option.some.inj hx; exact zgy (H.fact 3 rfl)
    | 2 => obtain rfl := Option.some.inj hx; exact (show St (fun w => ((h.r 14).1 = none → 32 = 0) ∧ TxG p (h.r 14) w) _ _ from H.fact 1 rfl).imp fun w hw => hw.2
    | t + 3 => simp at hx)
   rw [← ht1] at this
   exact this
  conv => whnf
  have hs2 : zwg gt [t1] = s := by rw [hs, ht1e, zfe, Int.toNat_natCast, hnb]
  refine za4 (zbe [17] rfl rfl (zaI (sv := .a (.agg [.key s])) (rs := []) (Rs := []) (zaj (sv := .a (.agg [.key s])) (rs := []) (Rs := []) rfl rfl rfl (by kernel_rfl) rfl fun h X w H => hs2 ▸ ztE (ps := [t1]) (q := (some ⟨h.b 17, 0, none⟩, 1)) H.xk (fun x hx => by
   rcases List.mem_singleton.1 hx with rfl
   rw [ht1e, zDv]
   show 6 + 4 + nb.length + p.length ≤ _
   omega) (by simp) (zdJ (ql := [h.r 16]) rfl (by simp) (H.fact 0 rfl) fun t x hx => by
   match t with
   | 0 => obtain rfl := Option.some.inj hx; exact zgy (H.fact 1 rfl)
   | t + 1 => simp at hx) (H.fact 13 rfl)) rfl rfl)) ?_
  conv => whnf
  refine ⟨0, ⟨rfl, Nat.zero_lt_one, Nat.zero_lt_one⟩, ?_⟩
  conv => whnf
  refine za4 (zkY (T := zeQ) (e := 23) s zaw rfl rfl rfl rfl rfl rfl rfl (fun _ => trivial) fun _ _ => rfl) ?_
  conv => whnf
  refine zd6 (by omega) (by omega) ?_
  conv => whnf
  exact ⟨1, [], [9, 10, 11, 12, 13], ⟨jV _, Nat.zero_lt_one⟩, zbW⟩
 ·obtain rfl : i = 1 := by
   have : ¬ (i : Int) < 1 := of_decide_eq_false hc
   omega
  conv => whnf
  exact zaY [(0, 5)] [] (.inl rfl) ⟨.inl rfl, trivial⟩ rfl trivial
theorem zuo {kd id : Int} {p : List Nat} (hm : zg6 kd [id] [] = true) (hp : zc4 [] ≠ zc4 p) (hid : zq1 id) (h32 : p.length = 32) (hpb : ∀ x ∈ p, x < 256) (hX : ∀ k ∈ X, k < w.heap.size) (q1 q2 q3 : Qd) (hq1 : St (SlQ zaS [id] q1) w X) (hq2 : St (SlQ (zfY zaS) [] q2) w X) (hq3 : St (SlQ zeQ [p] q3) w X) (hG : St (zc7 gt 2) w X) :
  Ct Tryz.prog 32 [(zbh kd id p).val q1 q2 q3] X w (.tup [.agg [.key (zfe gt id p)], .s (.p (.v (.int .i64 0)))]) [] [] := by
 refine vFn (k0 := 3) (rs := [.cell 2 23, .tmp 3]) (svs := [.a (.agg [ze7 kd, .one (.p (.hd 0 1)), .one (.p (.hd 1 0)), .one (.p (.hd 2 1))])]) (R0 := [.sl 0 1 (SlF zaS [id]), .sl 1 0 (SlF (zfY zaS) []), .sl 2 1 (SlF zeQ [p]), .c (zc7 gt 2)]) (hnQ [q1, q2, q3]) Tryz.ntmps32 Tryz.func32 rfl rfl rfl rfl rfl zaw (by kernel_rfl) hX (fun r hr => by
  rcases List.mem_cons.1 hr with rfl | hr
  ·exact hq1
  rcases List.mem_cons.1 hr with rfl | hr
  ·exact hq2
  rcases List.mem_cons.1 hr with rfl | hr
  ·exact hq3
  ·rcases List.mem_singleton.1 hr with rfl; exact hG) ?_
 conv => whnf
 obtain ⟨s, hs⟩ : ∃ s, s = zfe gt id p := ⟨_, rfl⟩
 rw [← hs]
 refine zak (sv := .tup [.s (.p (.hd 0 1)), .s (.p (.v (.int .i64 0)))]) (rs := [zbF zeQ [s] 23]) (Rs := []) rfl rfl rfl (by kernel_rfl) (fun h X w H => hs ▸ zun hm hp hid h32 hpb H.xk (h.r 0) (h.r 1) (h.r 2) (H.fact 0 rfl) (H.fact 1 rfl) (H.fact 2 rfl) (H.fact 3 rfl)) rfl rfl rfl ?_
 conv => whnf
 refine ⟨0, rfl, ?_⟩
 conv => whnf
 refine ⟨0, ⟨rfl, Nat.zero_lt_one, Nat.zero_lt_one⟩, ?_⟩
 conv => whnf
 refine zbE (zhT (T := zeQ) (n := 32) (off := 0) (sub := [.key s]) (x := s) (sv := .a (.agg [.key s])) (e := 23) rfl rfl (fun _ => rfl) rfl rfl (by kernel_rfl) (fun _ => .inl ⟨rfl, rfl⟩)) rfl rfl ?_
 conv => whnf
 exact zaF rfl
end
end
section
open Go.RowKit
theorem zir {α : Type} {T : Ty α} {x : α} {μ : T.μ} {ad : Addr} {w : World} {Y : List Nat} (hat : St (AtC ad (T.ch x μ)) w Y) (hn : St (T.nest x μ) w Y) : St (SlQ T [x] (some ad, 1)) w Y := fun w' hk =>
 ⟨fun e => (by cases e), fun _ => μ, ⟨jV _, (by show 1 ≤ 9223372036854775807; decide), fun e => (by cases e), fun ad' e t y hy => by
  obtain rfl := Option.some.inj e
  match t with
  | 0 => obtain rfl := Option.some.inj hy; rw [Nat.zero_mul, zau]; exact ⟨hat w' hk, hn w' hk⟩
  | t + 1 => simp at hy⟩⟩
theorem zeo {w : World} {Y : List Nat} : St (fun _ => True) w Y := fun _ _ => trivial
def zof : List Nat := [106, 111, 105, 110, 101, 114]
def zup : List Nat := List.replicate 32 0
def zis (gt : Nat → Nat) (seed : List Nat) : List Nat := zfZ gt seed zoe []
def zCE (gt : Nat → Nat) (n : Nat) (seed : List Nat) : List Nat := zqd gt (zfZ gt seed zof []) 0 (zfe gt n (zmQ gt (zis gt seed))) zup
def zxF (gt : Nat → Nat) (n : Nat) (seed : List Nat) : List Nat := zfZ gt (zCE gt n seed) zAE []
structure Epo where
 n : Nat
 init : List Nat
 app : List Nat
 confirm : List Nat
 member : List Nat
 hash : List Nat
structure Mem where
 t : Tre
 id : Int
 leaf : List Nat
 ahead : List Nat
 secrets : List (List Nat)
 e : Epo
 chains : List Rat
abbrev zCh (x : Mem) (i : Nat) : SA := .agg [ze7 x.t.kd, .one (.p (.hd i x.t.ids.length)), .one (.p (.hd (i + 1) x.t.ls.length)), .one (.p (.hd (i + 2) x.t.ps.length)), ze7 x.id, .key x.leaf, .key x.ahead, .one (.p (.hd (i + 3) x.secrets.length)), .one (.p (.v (.int .u64 ((x.e.n : Nat) : Int)))), .key x.e.init, .key x.e.app, .key x.e.confirm, .key x.e.member, .key x.e.hash, .one (.p (.hd (i + 4) x.chains.length))]
abbrev zCi (x : Mem) (i : Nat) : List SF := [.sl i x.t.ids.length (SlF zaS x.t.ids), .sl (i + 1) x.t.ls.length (SlF (zfY zaS) x.t.ls), .sl (i + 2) x.t.ps.length (SlF zeQ x.t.ps), .sl (i + 3) x.secrets.length (SlF zeQ x.secrets), .sl (i + 4) x.chains.length (SlF zf0 x.chains)]
abbrev zxG (kd id : Int) (lf ah : List Nat) (e : Epo) (a b c d g : SP) : SV := .tup [.agg [ze7 kd, .one (.p a), .one (.p b), .one (.p c), ze7 id, .key lf, .key ah, .one (.p d), .one (.p (.v (.int .u64 ((e.n : Nat) : Int)))), .key e.init, .key e.app, .key e.confirm, .key e.member, .key e.hash, .one (.p g)], .s (.p (.v (.int .i64 0)))]
theorem zhi {kd id : Int} {lf ah : List Nat} {e : Epo} {a b c d g a' b' c' d' g' : SP} {h : Hn} (ha : a'.den h = a.den h) (hb : b'.den h = b.den h) (hc : c'.den h = c.den h) (hd : d'.den h = d.den h) (hg : g'.den h = g.den h) : (zxG kd id lf ah e a' b' c' d' g').den h = (zxG kd id lf ah e a b c d g).den h := by
 simp only [zxG, SV.den, zmW, SA.den, zay, SC.den, SS.den, ha, hb, hc, hd, hg]
def zit (gt : Nat → Nat) (jn : List Nat) : Epo := ⟨0, zfZ gt jn zwT [], zfZ gt jn zAE [], zfZ gt jn zhh [], zfZ gt jn zkm [], zup⟩
def zuN (gt : Nat → Nat) (kd : Int) (n : Nat) (seed : List Nat) : Mem := ⟨zbh kd n (zmQ gt (zis gt seed)), n, zis gt seed, [], [], zit gt (zCE gt n seed), [zen gt (zxF gt n seed) n]⟩
section
variable {X : List Nat} {w : World} {gt : Nat → Nat} {seed : List Nat}
theorem zAi {kd : Int} {n : Nat} (hm : zg6 kd [(n : Int)] [] = true) (hp : zc4 [] ≠ zc4 (zmQ gt (zis gt seed))) (hn : n ≤ 1048576) (hk32 : seed.length = 32) (hkb : ∀ x ∈ seed, x < 256) (hX : ∀ k ∈ X, k < w.heap.size) (hG : St (zc7 gt 2) w X) :
  Ct Tryz.prog 9 [.int .i64 kd, .int .i64 n, .agg (ca [.key seed])] X w (.tup [zCh (zuN gt kd n seed) 0, .s (.p (.v (.int .i64 0)))]) [.gone, .gone, .gone, .gone, .gone] (zCi (zuN gt kd n seed) 0) := by
 refine vFn (k0 := 0) (rs := [.cell 6 37, .tmp 7]) (svs := [zaH .i64 kd, zaH .i64 n, .a (.agg [.key seed])]) (R0 := [.c (zc7 gt 2)]) (hnQ []) Tryz.ntmps9 Tryz.func9 rfl rfl rfl rfl rfl zaw (by kernel_rfl) hX (fun r hr => by rcases List.mem_singleton.1 hr with rfl; exact hG) ?_
 obtain ⟨lf, hlf⟩ : ∃ lf, lf = zis gt seed := ⟨_, rfl⟩
 conv => whnf
 refine zak (sv := .a (.agg [.key lf])) (rs := []) (Rs := []) rfl rfl rfl (by kernel_rfl) (fun h X w H => hlf ▸ zgs (lab := zoe) rfl (by decide) hk32 hkb H.xk (H.fact 0 rfl)) rfl rfl rfl ?_
 conv => whnf
 obtain ⟨pt, hpt⟩ : ∃ pt, pt = zmQ gt lf := ⟨_, rfl⟩
 have hl32 : lf.length = 32 := by rw [hlf]; exact zfV _ _ _ _
 have hlb : ∀ x ∈ lf, x < 256 := by rw [hlf]; exact zdC _ _ _ _
 refine zak (sv := .a (.agg [.key pt])) (rs := []) (Rs := []) rfl rfl rfl (by kernel_rfl) (fun h X w H => hpt ▸ zwV hl32 hlb H.xk (H.fact 0 rfl)) rfl rfl rfl ?_
 conv => whnf
 obtain ⟨sm, hsm⟩ : ∃ sm, sm = zfe gt n pt := ⟨_, rfl⟩
 have hpt32 : pt.length = 32 := by rw [hpt]; exact zug _
 have hptb : ∀ x ∈ pt, x < 256 := by rw [hpt]; exact zqZ _
 have hpp : zc4 [] ≠ zc4 pt := by rw [hpt, hlf]; exact hp
 refine za4 (zbe [3, 4] rfl rfl (zaI (sv := .tup [.agg [.key sm], .s (.p (.v (.int .i64 0)))]) (rs := []) (Rs := []) (zaj (sv := .tup [.agg [.key sm], .s (.p (.v (.int .i64 0)))]) (rs := []) (Rs := []) rfl rfl rfl (by kernel_rfl) rfl fun h X w H => ?_) rfl rfl)) ?_
 ·have h3 : St (AtC ⟨h.b 3, 0, none⟩ (zaS.ch (n : Int) ())) w _ := H.fact 1 rfl
  have h4 : St (AtC ⟨h.b 4, 0, none⟩ (zeQ.ch pt ())) w _ := H.fact 0 rfl
  have := zuo (gt := gt) hm hpp ⟨by omega, by omega⟩ hpt32 hptb H.xk (some ⟨h.b 3, 0, none⟩, 1) (none, 0) (some ⟨h.b 4, 0, none⟩, 1) (zir h3 zeo) zcn (zir h4 zeo) (H.fact 2 rfl)
  rw [← hsm] at this
  exact this
 conv => whnf
 obtain ⟨jn, hjn⟩ : ∃ jn, jn = zCE gt n seed := ⟨_, rfl⟩
 have hsm32 : sm.length = 32 := by rw [hsm]; exact zj7 _ _
 have hsmb : ∀ x ∈ sm, x < 256 := by rw [hsm]; exact zig _ _
 refine zbd 10 [2] (by kernel_rfl) ?_
 conv => whnf
 obtain ⟨jr, hjr⟩ : ∃ jr, jr = zfZ gt seed zof [] := ⟨_, rfl⟩
 have hjr32 : jr.length = 32 := by rw [hjr]; exact zfV _ _ _ _
 have hjrb : ∀ x ∈ jr, x < 256 := by rw [hjr]; exact zdC _ _ _ _
 refine za3 (zaj (sv := .a (.agg [.key jr])) (rs := []) (Rs := []) rfl rfl rfl (by kernel_rfl) rfl fun h X w H => hjr ▸ zgs (lab := zof) rfl (by decide) hk32 hkb H.xk (H.fact 2 rfl)) ?_
 conv => whnf
 have hjn2 : jn = zqd gt jr 0 sm zup := by rw [hjn, zCE, hjr, hsm, hpt, hlf]
 refine za3 (zaj (sv := .tup [zxE gt jn 0 zup, .s (.p (.v (.int .i64 0)))]) (rs := []) (Rs := []) rfl rfl rfl (by kernel_rfl) rfl fun h X w H => ?_) ?_
 ·have := zwU (gt := gt) (n := 0) (tree := sm) (hash := zup) (by omega) hjr32 hjrb hsm32 hsmb rfl (by decide) H.xk (H.fact 2 rfl)
  rw [← hjn2] at this
  exact this
 conv => whnf
 obtain ⟨ap, hap⟩ : ∃ ap, ap = zfZ gt jn zAE [] := ⟨_, rfl⟩
 have hap32 : ap.length = 32 := by rw [hap]; exact zfV _ _ _ _
 have hapb : ∀ x ∈ ap, x < 256 := by rw [hap]; exact zdC _ _ _ _
 refine za0 (zbe [6] rfl rfl (zaI (sv := .tup [.s (.p (.hd 7 1)), .s (.p (.v (.int .i64 0)))]) (rs := [zbF zf0 [zen gt ap n] 46]) (Rs := [.q 7 (zdd zf0 [zen gt ap n])]) (zaj (sv := .tup [.s (.p (.hd 0 1)), .s (.p (.v (.int .i64 0)))]) (rs := [zbF zf0 [zen gt ap n] 46]) (Rs := [.q 0 (zdd zf0 [zen gt ap n])]) rfl rfl rfl (by kernel_rfl) rfl fun h X w H => ?_) rfl rfl)) ?_
 ·have h6 : St (AtC ⟨h.b 6, 0, none⟩ (zaS.ch (n : Int) ())) w _ := H.fact 0 rfl
  have := zi9 (gt := gt) (ids := [(n : Int)]) (fun x hx => by rcases List.mem_singleton.1 hx with rfl; exact ⟨by omega, by omega⟩) (by show 1 ≤ _; decide) hap32 hapb H.xk (zir h6 zeo) (H.fact 3 rfl)
  rw [hap] at this ⊢
  exact this
 conv => whnf
 have em : zuN gt kd n seed = ⟨zbh kd n pt, n, lf, [], [], zit gt jn, [zen gt ap n]⟩ := by rw [zuN, zxF, ← hlf, ← hpt, ← hjn, ← hap]
 rw [em]
 clear em hlf hpt hjn hap hsm hjr hjn2
 refine znw 7 rfl (.head _) rfl ?_
 show RetOk X [] w _ 8 (zxG kd n lf [] (zit gt jn) (.sl 3 0 1 1) (.v (.slice none 0 0)) (.sl 4 0 1 1) (.v (.slice none 0 0)) (.hd 7 1)) _ _
 refine zkb (sv' := zxG kd n lf [] (zit gt jn) (.hd 8 1) (.v (.slice none 0 0)) (.sl 4 0 1 1) (.v (.slice none 0 0)) (.hd 7 1)) 1 (SlF zaS [(n : Int)]) (fun h => (some ⟨h.b 3, 0, none⟩, 1)) (fun h h' e => by rw [(e 3 rfl).1]) (fun h X w H => zir (T := zaS) (x := (n : Int)) (μ := ()) (H.fact 4 rfl) zeo) (fun h e => zhi (by simp only [SP.den, e]) rfl rfl rfl rfl) rfl ?_
 refine zkb (sv' := zxG kd n lf [] (zit gt jn) (.hd 8 1) (.hd 9 0) (.sl 4 0 1 1) (.v (.slice none 0 0)) (.hd 7 1)) 0 (SlF (zfY zaS) []) (fun h => (none, 0)) (fun h h' e => rfl) (fun h X w H => zcn) (fun h e => zhi rfl (by simp only [SP.den, e]) rfl rfl rfl) rfl ?_
 refine zkb (sv' := zxG kd n lf [] (zit gt jn) (.hd 8 1) (.hd 9 0) (.hd 10 1) (.v (.slice none 0 0)) (.hd 7 1)) 1 (SlF zeQ [pt]) (fun h => (some ⟨h.b 4, 0, none⟩, 1)) (fun h h' e => by rw [(e 4 rfl).1]) (fun h X w H => zir (T := zeQ) (x := pt) (μ := ()) (H.fact 5 rfl) zeo) (fun h e => zhi rfl rfl (by simp only [SP.den, e]) rfl rfl) rfl ?_
 refine zkb (sv' := zxG kd n lf [] (zit gt jn) (.hd 8 1) (.hd 9 0) (.hd 10 1) (.hd 11 0) (.hd 7 1)) 0 (SlF zeQ []) (fun h => (none, 0)) (fun h h' e => rfl) (fun h X w H => zcn) (fun h e => zhi rfl rfl rfl (by simp only [SP.den, e]) rfl) rfl ?_
 exact zaY [(0, 8), (1, 9), (2, 10), (3, 11), (4, 7)] [3, 2, 1, 0, 4] (.inl rfl) trivial rfl ⟨.inl rfl, .inl rfl, .inl rfl, .inl rfl, .inl rfl, trivial⟩
end
end
section
open Go.RowKit
section
variable {X : List Nat} {w : World} {xs : List (Nat × List Nat)} {q : Qd}
theorem zog (hX : ∀ k ∈ X, k < w.heap.size) (hq : St (SlQ zdQ xs q) w X) : Ct Tryz.prog 106 [.slice q.1 xs.length q.2] X w (.a (.s (.fn (.func 150) [] [.at_ 1 0]))) [.gone, .blk [.one (.p (.hd 0 xs.length))] 44] [.sl 0 xs.length (SlF zdQ xs)] := by
 refine vFn (k0 := 1) (rs := [.tmp 2]) (svs := [.a (.s (.p (.hd 0 xs.length)))]) (R0 := [.sl 0 xs.length (SlF zdQ xs)]) (hnQ [q]) Tryz.ntmps106 Tryz.func106 rfl rfl rfl rfl rfl zaw (by kernel_rfl) hX (fun r hr => by rcases List.mem_singleton.1 hr with rfl; exact hq) ?_
 conv => whnf
 exact zaY [(0, 0), (1, 1)] [0] (.inl rfl) ⟨.inl rfl, trivial⟩ rfl ⟨.inl rfl, trivial⟩
def skV (x : Nat × List Nat) : Value := .agg (ca [.one (.int .u64 ((x.1 : Nat) : Int)), .key x.2])
def zCj (xs : List (Nat × List Nat)) (i : Nat) : Array Value := #[.int .i64 ((xs.length : Nat) - 1 - (i : Nat) : Int), match xs[xs.length - 1 - i]? with | some x => skV x | none => undef]
abbrev zmT (n : Nat) (yv : Value) (i : Nat) : LE := [(3, zaH .i64 (((n : Nat) : Int) - 1 - (i : Nat))), (0, .a (.s (.p (.v yv)))), (1, atS 0 0)]
abbrev zDw (xs : List (Nat × List Nat)) (b : Nat) : List SF := [.blk 0 [.one (.p (.hd 0 xs.length))], .sl 0 xs.length (SlF zdQ xs), .b 0 fun x _ => x = b]
def zCF (b : Nat) (q : Qd) : Hn := ⟨fun _ => b, fun _ => q, fun _ _ => []⟩
def zDL (n b : Nat) (yv : Value) (i : Nat) : List (Nat × Value) := [(3, .int .i64 (((n : Nat) : Int) - 1 - (i : Nat))), (0, yv), (1, .pointer (some ⟨b, 0, none⟩))]
theorem zmU : ∀ {l : List (Nat × Value)} {i : Nat} {v : Value}, zeP l i = some v → (i, v) ∈ l
 | [], i, v, e => by cases e
 | (d, u) :: l, i, v, e => by
  unfold zeP at e
  cases hb : Nat.beq d i with
  | true => rw [hb] at e; obtain rfl := Option.some.inj e; obtain rfl := Nat.eq_of_beq_eq_true hb; exact List.mem_cons_self ..
  | false => rw [hb] at e; exact List.mem_cons_of_mem _ (zmU e)
theorem Env.sel {a : Act} {N : Nat} {l l2 : List (Nat × Value)} (E : Env a N l) (h : ∀ p ∈ l2, zeP l p.1 = some p.2) : Env a N l2 := E.sub fun i v hv => h _ (zmU hv)
theorem zqf {A B : World} (h : Frm [] A B) : Kept A.heap.size A B := ⟨h.os, h.tape, h.output, h.size, fun k hk => h.block k hk (by simp)⟩
theorem zfX {b : Nat} {l0 : LE} {a : Act} {W : World} (E : Env a 19 (zcu (zCF b q) l0)) (hwl : wfE (lt_ 1) l0 = true) (hb : St (AtC ⟨b, 0, none⟩ [.one (.slice q.1 xs.length q.2)]) W []) (hs : St (SlQ zdQ xs q) W []) : VSt 19 [] [] W 1 l0 [] (zDw xs b) (zCF b q) a W := by
 refine ⟨E, ⟨fun _ h => (by cases h), fun _ h => (by cases h), List.nodup_nil, fun _ h => (by cases h), fun r hr => ?_⟩, Frm.refl _ _, fun _ h => (by cases h), hwl, rfl, rfl⟩
 rcases List.mem_cons.1 hr with rfl | hr
 ·exact hb
 rcases List.mem_cons.1 hr with rfl | hr
 ·exact hs
 ·rcases List.mem_singleton.1 hr with rfl
  exact fun _ _ => rfl
theorem zAj {N k : Nat} {l0 : LE} {h : Hn} {a : Act} {W : World} (E : Env a N (zcu h l0)) (hwl : wfE (lt_ k) l0 = true) : VSt N [] [] W k l0 [] [] h a W :=
 ⟨E, ⟨fun _ h => (by cases h), fun _ h => (by cases h), List.nodup_nil, fun _ h => (by cases h), fun _ h => (by cases h)⟩, Frm.refl _ _, fun _ h => (by cases h), hwl, rfl, rfl⟩
structure BackK (xs : List (Nat × List Nat)) (b : Nat) (yv : Value) (t3 : Int) (l : LE) (R : List SF) : Prop where
 t0 : zbD l 0 = some (.a (.s (.p (.v yv))))
 t1 : zbD l 1 = some (atS 0 0)
 t3 : zbD l 3 = some (zaH .i64 t3)
 fb : SF.b 0 (fun x _ => x = b) ∈ R
theorem BackK.env {b k : Nat} {yv : Value} {t3 : Int} {l : LE} {m : MB} {R : List SF} {G : List Nat} {w0 : World} {h : Hn} {a : Act} {W : World} (hk : BackK xs b yv t3 l R) (H : VSt 19 X G w0 k l m R h a W) : Env a 19 [(3, .int .i64 t3), (0, yv), (1, .pointer (some ⟨b, 0, none⟩))] := by
 have hb : h.b 0 = b := (H.sp.facts _ (zaO.2 ⟨_, hk.fb, rfl⟩)).now
 refine H.env.sel fun p hp => ?_
 rcases List.mem_cons.1 hp with rfl | hp
 ·exact zaP h _ _ _ hk.t3
 rcases List.mem_cons.1 hp with rfl | hp
 ·exact zaP h _ _ _ hk.t0
 ·rcases List.mem_singleton.1 hp with rfl
  rw [zaP h _ _ _ hk.t1]
  show some (Value.pointer (some ⟨h.b 0, 0, none⟩)) = _
  rw [hb]
theorem zAk {n b : Nat} (hN : xs.length ≤ 9223372036854775807) {I : Nat → World → Prop} (hfacts : ∀ i A, I i A → St (AtC ⟨b, 0, none⟩ [.one (.slice q.1 xs.length q.2)]) A [] ∧ St (SlQ zdQ xs q) A []) (lo : Nat) (J : Nat → World → Prop) (Jx : World → Prop) (W : World) (hJI : ∀ i A, J i A → I i A) (hJ : ∀ i A B, Kept A.heap.size A B → J i A → J i B) (hJx : ∀ A B, Kept A.heap.size A B → Jx A → Jx B)
  (hY : ∀ i A, i < xs.length → J i A → YieldAt (zby none) (n - 1) Tryz.prog lo (zCj xs i) A fun e B => (e = .returned (.bool true) ∧ J (i + 1) B) ∨ (e = .returned (.bool false) ∧ Jx B)) (h0 : J 0 W) :
  CallsIn (zby none) n Tryz.prog 150 (#[.func (.yield lo) #[] #[]] ++ #[.pointer (some ⟨b, 0, none⟩)]) W fun e B => (∃ v, e = .returned v) ∧ (J xs.length B ∨ Jx B) := by
 obtain ⟨yv, hyv⟩ : ∃ yv, yv = Value.func (.yield lo) #[] #[] := ⟨_, rfl⟩
 rw [← hyv]
 refine zn0 (N := 19) rfl Tryz.func150 rfl rfl fun a0 E0 => ?_
 have e150 : ∀ i : Nat, zDL xs.length b yv i = zcu (zCF b q) (zmT xs.length yv i) := fun i => rfl
 have hK0 : ∀ {i k : Nat} {t3 : Int} {lS : LE} {m : MB} {R : List SF} {h : Hn} {a : Act} {A B : World}, J i A → BackK xs b yv t3 lS R → VSt 19 [] [] A k lS m R h a B → Env a 19 [(3, .int .i64 t3), (0, yv), (1, .pointer (some ⟨b, 0, none⟩))] ∧ J i B := fun hj hk H => ⟨hk.env H, hJ _ _ _ (zqf H.frm) hj⟩
 obtain ⟨f1, f2⟩ := hfacts _ _ (hJI _ _ h0)
 have HV0 := zfX (l0 := [(0, .a (.s (.p (.v yv)))), (1, atS 0 0)]) E0 rfl f1 f2
 refine wpIn_seq (zeY (Kn := fun k l m R => BackK xs b yv (((xs.length : Nat) : Int) - 1 - (0 : Nat)) l R) (Kx := fun _ _ _ _ _ => False) (Kr := fun _ _ _ _ => False) zaw _ rfl (by
  conv => whnf
  refine zd6 (by show _ ≤ ((xs.length : Nat) : Int) - 1; omega) (by show ((xs.length : Nat) : Int) - 1 ≤ _; omega) ?_
  conv => whnf
  exact ⟨rfl, rfl, by first | rfl | (rw [Int.natCast_zero, Int.sub_zero]; rfl), .tail _ (.tail _ (.head _))⟩) HV0 (fun k l m R h a W1 hk H => ?_) (fun _ _ _ _ _ _ _ _ hk _ => hk.elim) fun _ _ _ _ _ _ _ hk _ => hk.elim)
 obtain ⟨E1, j1⟩ := hK0 h0 hk H
 clear hk H HV0 f1 f2 E0 h0 a0
 refine wpIn_block ((wpIn_wide (n := n)).2 (zrq (fun i a W => Env a 19 (zDL xs.length b yv i) ∧ i ≤ xs.length ∧ J i W) (fun i => xs.length - i) 0 ⟨E1, Nat.zero_le _, j1⟩ fun i a A ⟨E, hi, hj⟩ => (wpIn_wide (n := n)).1 ?_))
 obtain ⟨f1, f2⟩ := hfacts _ _ (hJI _ _ hj)
 have HV := zfX (l0 := zmT xs.length yv i) E rfl f1 f2
 by_cases hlt : i < xs.length
 case neg =>
  obtain rfl : i = xs.length := by omega
  refine wpIn_seq (zeY (Kn := fun _ _ _ _ => False) (Kx := fun j k l m R => j = 0 ∧ BackK xs b yv (((xs.length : Nat) : Int) - 1 - (xs.length : Nat)) l R) (Kr := fun _ _ _ _ => False) zaw _ rfl (by
   conv => whnf
   refine vIf (fun hc => ?_) fun hc => ?_
   ·have : (((xs.length : Nat) : Int) - 1 - (xs.length : Nat)) ≥ 0 := of_decide_eq_true hc
    omega
   ·conv => whnf
    exact ⟨rfl, rfl, rfl, rfl, .tail _ (.tail _ (.head _))⟩) HV (fun _ _ _ _ _ _ _ hk _ => hk.elim) (fun j k l m R h a W1 hk H => ?_) fun _ _ _ _ _ _ _ hk _ => hk.elim)
  obtain ⟨rfl, hk⟩ := hk
  obtain ⟨E2, j2⟩ := hK0 hj hk H
  refine (?_ : bodyPost Tryz.prog Tryz.f150 (fun e B => (∃ v, e = .returned v) ∧ (J xs.length B ∨ Jx B)) .normal _ _)
  exact ⟨E2.defers, _, results_none rfl _ _ _, ⟨_, rfl⟩, .inl j2⟩
 case pos =>
  obtain ⟨x, hx⟩ : ∃ x, xs[xs.length - 1 - i]? = some x := ⟨_, jP (by omega)⟩
  refine wpIn_seq (zeY (Kn := fun k l m R => BackK xs b yv (((xs.length : Nat) : Int) - 1 - (i : Nat)) l R) (Kx := fun _ _ _ _ _ => False) (Kr := fun _ _ _ _ => False) zaw _ rfl (by
   conv => whnf
   refine vIf (fun hc => ?_) fun hc => ?_
   ·conv => whnf
    exact ⟨rfl, rfl, rfl, .tail _ (.tail _ (.head _))⟩
   ·have : ¬ (((xs.length : Nat) : Int) - 1 - (i : Nat)) ≥ 0 := of_decide_eq_false hc
    omega) HV (fun k l m R h a W1 hk H => ?_) (fun _ _ _ _ _ _ _ _ hk _ => hk.elim) fun _ _ _ _ _ _ _ hk _ => hk.elim)
  obtain ⟨E2, j2⟩ := hK0 hj hk H
  clear hk H HV f1 f2 E hj
  obtain ⟨f1, f2⟩ := hfacts _ _ (hJI _ _ j2)
  have HV := zfX (l0 := zmT xs.length yv i) E2 rfl f1 f2
  refine wpIn_seq (wpIn_block (wpIn_seq (wpIn_region_lit ?_)))
  refine zn1 6 (K := fun k l m R => BackK xs b yv (((xs.length : Nat) : Int) - 1 - (i : Nat)) l R ∧ zbD l 11 = some (.a (.s (.p (.v yv)))) ∧ zbD l 12 = some (zaH .i64 (((xs.length : Nat) : Int) - 1 - (i : Nat))) ∧ zbD l 16 = some (.a (.agg [.one (.p (.v (.int .u64 ((x.1 : Nat) : Int)))), .key x.2]))) zaw HV rfl ?_ fun k l m R h a W1 hk H => ?_
  ·conv => whnf
   refine ⟨xs.length - 1 - i, ⟨by omega, by omega, by omega⟩, ?_⟩
   conv => whnf
   refine zbE (zbr (T := zdQ) (x := x) (n := 33) (off := 0) (sub := [.one (.int .u64 ((x.1 : Nat) : Int)), .key x.2]) (sv := .a (.agg [.one (.p (.v (.int .u64 ((x.1 : Nat) : Int)))), .key x.2])) 1 hx (fun _ => rfl) rfl rfl rfl (by kernel_rfl) (fun _ => .inl ⟨rfl, rfl⟩)) rfl rfl ?_
   conv => whnf
   exact ⟨⟨rfl, rfl, rfl, .tail _ (.tail _ (.head _))⟩, rfl, rfl, rfl⟩
  obtain ⟨hk, k11, k12, k16⟩ := hk
  obtain ⟨E3, j3⟩ := hK0 j2 hk H
  have v11 := H.env.val 11 _ (zaP h _ _ _ k11)
  have v12 := H.env.val 12 _ (zaP h _ _ _ k12)
  have v16 := H.env.val 16 _ (zaP h _ _ _ k16)
  obtain ⟨fn, tmps, assign, body, hy, hR⟩ := hY i W1 hlt j3
  replace hy : (Instr.yield lo #[.int .i64 (((xs.length : Nat) : Int) - 1 - (i : Nat)), skV x]).run Tryz.prog W1 = .ok (.round lo fn tmps assign body) W1 := by
   unfold zCj at hy
   rw [hx] at hy
   exact hy
  clear hk H HV f1 f2 E2 j2 k11 k12 k16
  refine wpListIn_plain rfl fun K hK => zwt rfl (v11.trans hyv) (args := #[.int .i64 (((xs.length : Nat) : Int) - 1 - (i : Nat)), skV x]) (by simp only [List.map_toArray, List.map_cons, List.map_nil]; rw [show a.eval (.tmp 12) = _ from v12, show a.eval (.tmp 16) = _ from v16]; rfl) hy hR fun e W2 h => ?_
  rcases h with ⟨rfl, j4⟩ | ⟨rfl, jx⟩
  ·refine ⟨_, rfl, hK _ _ ?_⟩
   have E4 := E3.put (d := 17) (v := .bool true) rfl
   obtain ⟨f1, f2⟩ := hfacts _ _ (hJI _ _ j4)
   have HV := zfX (l0 := (17, zbu true) :: zmT xs.length yv i) E4 rfl f1 f2
   refine zn1 1 (K := fun k l m R => BackK xs b yv (((xs.length : Nat) : Int) - 1 - (i : Nat)) l R ∧ zbD l 18 = some (zbu false)) zaw HV rfl (by
     conv => whnf
     exact ⟨⟨rfl, rfl, rfl, .tail _ (.tail _ (.head _))⟩, rfl⟩) fun k l m R h a W3 hk H => ?_
   obtain ⟨E5, j5⟩ := hK0 j4 hk.1 H
   refine wpIn_cond_false (H.env.val 18 _ (zaP h _ _ _ hk.2)) (wpIn_skip ?_)
   obtain ⟨g1, g2⟩ := hfacts _ _ (hJI _ _ j5)
   refine zeY (Kn := fun k l m R => BackK xs b yv (((xs.length : Nat) : Int) - 1 - ((i + 1 : Nat) : Int)) l R) (Kx := fun _ _ _ _ _ => False) (Kr := fun _ _ _ _ => False) zaw _ rfl (by
    conv => whnf
    refine zc6 (z' := ((xs.length : Nat) : Int) - 1 - ((i + 1 : Nat) : Int)) (by omega) (by omega) (by omega) ?_
    conv => whnf
    exact ⟨rfl, rfl, rfl, .tail _ (.tail _ (.head _))⟩) (zfX (l0 := zmT xs.length yv i) E5 rfl g1 g2) (fun k l m R h a W4 hk H => ?_) (fun _ _ _ _ _ _ _ _ hk _ => hk.elim) fun _ _ _ _ _ _ _ hk _ => hk.elim
   obtain ⟨E6, j6⟩ := hK0 j5 hk H
   exact ⟨i + 1, ⟨E6, hlt, j6⟩, by omega⟩
  ·refine ⟨_, rfl, hK _ _ ?_⟩
   have E4 := E3.put (d := 17) (v := .bool false) rfl
   have HV : VSt 19 [] [] W2 1 [(17, zbu false)] [] [] (zCF b q) _ W2 := zAj (E4.sel fun p hp => by rcases List.mem_singleton.1 hp with rfl; rfl) rfl
   refine zn1 1 (K := fun k l m R => zbD l 18 = some (zbu true)) zaw HV rfl (by
     conv => whnf
     exact rfl) fun k l m R h a W3 hk H => ?_
   refine wpIn_cond_true (H.env.val 18 _ (zaP h _ _ _ hk)) (wpIn_ret ?_)
   exact ⟨H.env.defers, _, results_none rfl _ _ _, ⟨_, rfl⟩, .inr (hJx _ _ (zqf H.frm) jx)⟩
def zgH (g : Nat) : List (Nat × List Nat) → Bool
 | [] => true
 | x :: l => decide (x.1 < g) && zgH x.1 l
def zq2 (r : Rat) : Bool := decide (r.gen ≤ 4294967296) && (decide (r.left.length ≤ 1024) && zgH r.gen r.left.reverse)
def zcH (r : Rat) : Int := if zq2 r then 0 else 1
structure CutK (r : Rat) (k : Nat) (l : LE) (m : MB) (R : List SF) : Prop where
 g1 : r.gen ≤ 4294967296
 g2 : r.left.length ≤ 1024
 t2 : zbD l 2 = some (atS 2 0)
 t3 : zbD l 3 = some (atS 3 0)
 t19 : zbD l 19 = some (.a (.s (.fn (.func 150) [] [.at_ 5 0])))
 m2 : zaB m 2 = some (.blk [.one (.p (.v (.int .i64 0)))] 38)
 m3 : zaB m 3 = some (.blk [.one (.p (.v (.int .u64 ((r.gen : Nat) : Int))))] 32)
 m5 : zaB m 5 = some (.blk [.one (.p (.hd 4 r.left.length))] 44)
 f4 : SF.sl 4 r.left.length (SlF zdQ r.left) ∈ R
theorem zkn {F : Fence} {n : Nat} {P : Program} {fn : Func} {Rr : Ending → World → Prop} {a : Act} {w : World} (h : bodyPost P fn Rr .ret a w) : bodyPostM F n P fn Rr .ret a w := by
 obtain ⟨hd, v, hr, hR⟩ := h
 show LeavesInM F n P fn a.tmps Rr a.defers .returning w
 rw [hd]
 exact ⟨v, hr, hR⟩
theorem zqg {G : List Nat} {W A B : World} (h : Frm G W A) (k : Kept W.heap.size A B) : Frm G W B := ⟨k.os.trans h.os, k.tape.trans h.tape, k.output.trans h.output, jU h.size k.size, fun i hi hn => (k.block i hi).trans (h.block i hi hn)⟩
abbrev mark (D : Nat) : Deferred := { target := .collected D, args := #[] }
def hn2 (b2 b3 : Nat) : Hn := ⟨fun i => if i = 2 then b2 else b3, fun _ => (none, 0), fun _ _ => []⟩
theorem zuq {N b2 b3 : Nat} {l0 : LE} {c2 c3 : List SC} {t2 t3 : Nat} {a : Act} {W : World} (E : Env a N (zcu (hn2 b2 b3) l0)) (hne : b2 ≠ b3) (h2 : (Res.blk b2 (ca (zay (hn2 b2 b3) c2)) t2).holds W) (h3 : (Res.blk b3 (ca (zay (hn2 b2 b3) c3)) t3).holds W) (hwl : wfE (lt_ 4) l0 = true) (hwm : wfM (lt_ 4) [(2, .blk c2 t2), (3, .blk c3 t3)] = true) :
  VSt N [] [b2, b3] W 4 l0 [(2, .blk c2 t2), (3, .blk c3 t3)] [.b 2 (fun y _ => y = b2), .b 3 (fun y _ => y = b3)] (hn2 b2 b3) a W := by
 refine ⟨E, ⟨fun _ h => (by cases h), fun q hq => ?_, ?_, fun _ _ h => (by cases h), fun f hf => ?_⟩, Frm.refl _ _, fun j hj => .inl hj, hwl, hwm, rfl⟩
 ·rcases List.mem_cons.1 hq with rfl | hq
  ·exact h2
  ·rcases List.mem_singleton.1 hq with rfl
   exact h3
 ·show [b2, b3].Nodup
  simp [hne]
 ·rcases List.mem_cons.1 hf with rfl | hf
  ·exact fun _ _ => rfl
  ·rcases List.mem_singleton.1 hf with rfl
   exact fun _ _ => rfl
theorem zxH {a : Act} {A : World} {b2 D : Nat} {z : Int} {r : Rat} (E : Env a 28 [(2, .pointer (some ⟨b2, 0, none⟩))]) (h2 : (Res.blk b2 (ca [.one (.int .i64 z)]) 38).holds A) (hD : A.heap[D]? = some (.deferred (some []))) (hF : Frm [] w A) (hDw : w.heap.size ≤ D) (hX : ∀ k ∈ X, k < w.heap.size) (hz : zcH r = z) :
  bodyPostM (zby none) 5 Tryz.prog Tryz.f83 (fun e w' => ∃ h : Hn, e = .returned ((.a (.s (.p (.v (.int .i64 (zcH r))))) : SV).den h) ∧ Sep X [] w w' (zdk h 0 []) (zaN h [])) .ret (dfr [mark D] a) A := by
 have hne : D ≠ b2 := fun e => by
  have h2' : A.heap[b2]? = some (.cells (ca [.one (.int .i64 z)]) 38 (0, 0)) := h2
  rw [← e, hD] at h2'
  cases h2'
 refine ⟨by simp, .inl ⟨D, _, rfl, run_takeDeferred hD, ?_⟩⟩
 have h2w : (Res.blk b2 (ca [.one (.int .i64 z)]) 38).holds (A.putObj D (.deferred none)) := zbo h2 fun j hj => World.putObj_heap_other fun e => hne (by rcases List.mem_singleton.1 hj with rfl; first | exact e | exact e.symm)
 have HV : VSt 28 [] [b2] (A.putObj D (.deferred none)) 1 [(2, atS 0 0)] [(0, .blk [.one (.p (.v (.int .i64 z)))] 38)] [] ⟨fun _ => b2, fun _ => (none, 0), fun _ _ => []⟩ a (A.putObj D (.deferred none)) := by
  refine ⟨E, ⟨fun _ h => (by cases h), fun q hq => ?_, (by show [b2].Nodup; simp), fun _ _ h => (by cases h), fun _ h => (by cases h)⟩, Frm.refl _ _, fun j hj => .inl hj, rfl, rfl, rfl⟩
  rcases List.mem_singleton.1 hq with rfl
  exact h2w
 have := zfD (Rr := fun e w' => e = .returned (.int .i64 z)) (fn := Tryz.f83) (rs := [.cell 2 38]) zaw rfl (by decide) (fun _ h => (by cases h)) HV (by
  conv => whnf
  exact ⟨fun h w _ _ _ _ _ => rfl⟩)
 obtain ⟨_, v, hr, hv⟩ := this
 obtain rfl := Ending.returned.inj hv
 have hF2 : Frm [] w (A.putObj D (.deferred none)) := hF.trans (Y := [D]) ⟨rfl, rfl, rfl, by simp [World.putObj], fun k hk hn => World.putObj_heap_other (by simp at hn; omega)⟩ fun k hk => by rcases List.mem_singleton.1 hk with rfl; exact .inr hDw
 exact ⟨_, hr, ⟨fun _ => 0, fun _ => (none, 0), fun _ _ => []⟩, by rw [hz]; rfl, hF2, hX, fun _ h => (by cases h), List.nodup_nil, fun _ h => (by cases h), fun _ h => (by cases h)⟩
theorem zmV {r : Rat} (hX : ∀ k ∈ X, k < w.heap.size) (hq : St (SlQ zdQ r.left q) w X) : Ct Tryz.prog 83 [.agg (ca (zf0.ch r q))] X w (.a (.s (.p (.v (.int .i64 (zcH r)))))) [] [] := by
 have hlen : r.left.length ≤ 9223372036854775807 := SlQ.big hq
 obtain ⟨Rr, hRr⟩ : ∃ Rr : Ending → World → Prop, Rr = fun e w' => ∃ h : Hn, e = .returned ((.a (.s (.p (.v (.int .i64 (zcH r))))) : SV).den h) ∧ Sep X [] w w' (zdk h 0 []) (zaN h []) := ⟨_, rfl⟩
 show Calls _ _ _ _ _
 refine (callsIn_wide (n := 5)).1 ?_
 refine zmE (N := 28) rfl Tryz.func83 rfl rfl fun a E => ?_
 have HV : VSt 28 X [] w 1 (zhQ 0 [.a (.agg [.key r.chain, .one (.p (.v (.int .u64 ((r.gen : Nat) : Int)))), .one (.p (.hd 0 r.left.length))])]) [] [.sl 0 r.left.length (SlF zdQ r.left)] (hnQ [q]) a w := by
  refine ⟨E, ⟨hX, fun _ h => (by cases h), List.nodup_nil, fun _ h => (by cases h), fun f hf => ?_⟩, Frm.refl _ _, fun _ h => (by cases h), rfl, rfl, rfl⟩
  rcases List.mem_singleton.1 hf with rfl
  exact hq.mono (by simp [zad, zab])
 rw [← hRr]
 refine zBN (Kn := fun k l m R => CutK r k l m R) (Kr := zvi tab [.cell 2 38] (RetOk X [] w Rr)) zaw _ _ _ _ rfl rfl rfl rfl ?_ HV (fun k l m R h a W hk H => ?_) fun k l m R h a W hk H => zkn (zfD zaw rfl (by decide) hX H hk)
 ·rw [hRr]
  have e0 : (((r.gen : Nat) : Int) > 4294967296) = ¬ r.gen ≤ 4294967296 := by
   apply propext
   omega
  conv => whnf
  cases hc : decide (((r.gen : Nat) : Int) > 4294967296) with
  | true =>
   have hn : ¬ r.gen ≤ 4294967296 := by simpa [e0] using hc
   have hz : zcH r = 1 := by simp [zcH, zq2, hn]
   rw [hz]
   conv => whnf
   exact zaF rfl
  | false =>
   have hg : r.gen ≤ 4294967296 := by simpa [e0] using hc
   conv => whnf
   refine vIf (fun hc => ?_) fun hc => ?_
   ·have h2 : ((r.left.length : Nat) : Int) > 1024 := of_decide_eq_true hc
    have hz : zcH r = 1 := by simp [zcH, zq2, show ¬ r.left.length ≤ 1024 by omega]
    rw [hz]
    conv => whnf
    exact zaF rfl
   have h2 : ¬ ((r.left.length : Nat) : Int) > 1024 := of_decide_eq_false hc
   conv => whnf
   refine zak (sv := .a (.s (.fn (.func 150) [] [.at_ 1 0]))) (rs := [.gone, .blk [.one (.p (.hd 0 r.left.length))] 44]) (Rs := [.sl 0 r.left.length (SlF zdQ r.left)]) rfl rfl rfl (by kernel_rfl) (fun h X w H => zog H.xk (H.fact 0 rfl)) rfl rfl rfl ?_
   conv => whnf
   exact ⟨hg, by omega, rfl, rfl, rfl, rfl, rfl, rfl, .head _⟩
 ·obtain ⟨b2, hb2⟩ : ∃ b, h.b 2 = b := ⟨_, rfl⟩
  obtain ⟨b3, hb3⟩ : ∃ b, h.b 3 = b := ⟨_, rfl⟩
  obtain ⟨b5, hb5⟩ : ∃ b, h.b 5 = b := ⟨_, rfl⟩
  obtain ⟨q4, hq4⟩ : ∃ q, h.r 4 = q := ⟨_, rfl⟩
  have e2 : a.eval (.tmp 2) = .pointer (some ⟨b2, 0, none⟩) := by rw [← hb2]; exact H.env.val 2 _ (zaP h _ _ _ hk.t2)
  have e3 : a.eval (.tmp 3) = .pointer (some ⟨b3, 0, none⟩) := by rw [← hb3]; exact H.env.val 3 _ (zaP h _ _ _ hk.t3)
  have e19 : a.eval (.tmp 19) = .func (.func 150) #[] #[.pointer (some ⟨b5, 0, none⟩)] := by rw [← hb5]; exact H.env.val 19 _ (zaP h _ _ _ hk.t19)
  have hp2 := zaG h m [] 2 _ hk.m2 (by simp)
  have hp3 := zaG h m [2] 3 _ hk.m3 (by simp)
  have hp5 := zaG h m [3, 2] 5 _ hk.m5 (by simp)
  have hp := hp2.trans ((hp3.trans (hp5.append_left _)).append_left _)
  have hkp := zar hp
  have hnod := (hkp.nodup_iff).1 H.sp.apart
  have hmem : ∀ x ∈ [b2, b3, b5], x ∈ zab (zad h [] m) := fun x hx => hkp.mem_iff.2 (by
   show x ∈ h.b 2 :: h.b 3 :: h.b 5 :: _
   rw [hb2, hb3, hb5]
   simp at hx ⊢
   rcases hx with rfl | rfl | rfl <;> simp)
  have hnod2 : (b2 :: b3 :: b5 :: zab (zad h [5, 3, 2] m)).Nodup := by
   rw [← hb2, ← hb3, ← hb5]
   exact hnod
  have n23 : b2 ≠ b3 := fun e => by simp [e] at hnod2
  have n25 : b2 ≠ b5 := fun e => by simp [e] at hnod2
  have n35 : b3 ≠ b5 := fun e => by simp [e] at hnod2
  have o2 : (Res.blk b2 (ca [.one (.int .i64 0)]) 38).holds W := by rw [← hb2]; exact zb5 H.sp hk.m2
  have o3 : (Res.blk b3 (ca [.one (.int .u64 ((r.gen : Nat) : Int))]) 32).holds W := by rw [← hb3]; exact zb5 H.sp hk.m3
  have o5 : (Res.blk b5 (ca [.one (.slice q4.1 r.left.length q4.2)]) 44).holds W := by rw [← hb5, ← hq4]; exact zb5 H.sp hk.m5
  have hS : St (SlQ zdQ r.left q4) W (X ++ zab (zad h [] m)) := by rw [← hq4]; exact H.sp.facts _ (zaO.2 ⟨_, hk.f4, rfl⟩)
  have hw2 : ∀ x ∈ [b2, b3, b5], w.heap.size ≤ x ∧ x < W.heap.size := fun x hx => ⟨(H.mine x (hmem x hx)).resolve_left (by simp), H.sp.lt x (hmem x hx)⟩
  have hFw := H.frm
  have hds := H.env.defers
  have hEa := H.env
  obtain ⟨rv, hrv⟩ : ∃ rv, rv = r.left.reverse := ⟨_, rfl⟩
  have hrl : rv.length = r.left.length := by rw [hrv, List.length_reverse]
  have hbig : (W.heap.size : Nat) = W.heap.size := rfl
  refine wpIn_block (ztS (N := r.left.length) (encs := zCj r.left) e19 (fun args w => ziS (by kernel_rfl)) (fun i => rfl)
   (fun i A => Frm [b2, b3] W A ∧ (Res.blk b2 (ca [.one (.int .i64 0)]) 38).holds A ∧ ∃ g : Nat, (Res.blk b3 (ca [.one (.int .u64 ((g : Nat) : Int))]) 32).holds A ∧ zgH r.gen rv = zgH g (rv.drop i))
   (fun c A => c = .ret ∧ Frm [b2, b3] W A ∧ (Res.blk b2 (ca [.one (.int .i64 1)]) 38).holds A ∧ zgH r.gen rv = false)
   (fun i A B hAB ⟨h1, h2, g, h3, h4⟩ => ⟨zqg h1 hAB, zbo h2 fun j hj => hAB.block j (by rcases List.mem_singleton.1 hj with rfl; exact (hw2 _ (by simp)).2), g, zbo h3 fun j hj => hAB.block j (by rcases List.mem_singleton.1 hj with rfl; exact (hw2 _ (by simp)).2), h4⟩)
   (fun c A B hAB ⟨h0, h1, h2, h3⟩ => ⟨h0, zqg h1 hAB, zbo h2 fun j hj => hAB.block j (by rcases List.mem_singleton.1 hj with rfl; exact (hw2 _ (by simp)).2), h3⟩)
   ⟨Frm.refl _ _, o2, r.gen, o3, by rw [jG]⟩ (zAk (q := q4) hlen fun i A ⟨h1, h2, h3⟩ => ⟨?_, ?_⟩) ?_ ?_ ?_)
  ·have o5A : (Res.blk b5 (ca [.one (.slice q4.1 r.left.length q4.2)]) 44).holds A := zbo o5 fun j hj => h1.block j (by rcases List.mem_singleton.1 hj with rfl; exact (hw2 _ (by simp)).2) (by rcases List.mem_singleton.1 hj with rfl; simp; exact ⟨fun e => n25 e.symm, fun e => n35 e.symm⟩)
   exact fun A' hA' => zdS (t := 44) (fr := (0, 0)) (zbo o5A fun j hj => hA' j (by rcases List.mem_singleton.1 hj with rfl; exact zfp o5A _ (List.mem_singleton.2 rfl)) (by simp))
  ·exact hS.step h1.size (fun k hk hn => h1.block k hk fun hm => hn (List.mem_append_right _ (hmem k (by simp at hm ⊢; rcases hm with rfl | rfl <;> simp)))) (fun k hk => by cases hk)
  ·rintro i A hi ⟨h1, h2, g, h3, h4⟩ hsz
   obtain ⟨x, hx⟩ : ∃ x, r.left[r.left.length - 1 - i]? = some x := ⟨_, jP (by omega)⟩
   have hxr : rv[i]? = some x := by rw [hrv, List.getElem?_reverse hi]; exact hx
   have hdr : rv.drop i = x :: rv.drop (i + 1) := by
    obtain ⟨hlt, e⟩ := List.getElem?_eq_some_iff.1 hxr
    rw [List.drop_eq_getElem_cons hlt, e]
   have hgo : zgH r.gen rv = (decide (x.1 < g) && zgH x.1 (rv.drop (i + 1))) := by rw [h4, hdr]; rfl
   have hen : zCj r.left i = #[.int .i64 ((r.left.length : Nat) - 1 - (i : Nat) : Int), skV x] := by unfold zCj; rw [hx]
   rw [hen, show (#[20, 21] : Array Tmp).zip #[Value.int .i64 ((r.left.length : Nat) - 1 - (i : Nat) : Int), skV x] = #[(20, Value.int .i64 ((r.left.length : Nat) - 1 - (i : Nat) : Int)), (21, skV x)] from (by simp), ← Array.foldl_toList]
   have EA : Env { tmps := (a.tmps.setIfInBounds 20 (.int .i64 ((r.left.length : Nat) - 1 - (i : Nat) : Int))).setIfInBounds 21 (skV x), defers := [] } 28 (zcu (hn2 b2 b3) [(21, .a (.agg [.one (.p (.v (.int .u64 ((x.1 : Nat) : Int)))), .key x.2])), (2, atS 2 0), (3, atS 3 0)]) := by
    have e1 := (hEa.put (d := 20) (v := .int .i64 ((r.left.length : Nat) - 1 - (i : Nat) : Int)) rfl).put (d := 21) (v := skV x) rfl
    refine Env.sel (l := (21, skV x) :: (20, .int .i64 ((r.left.length : Nat) - 1 - (i : Nat) : Int)) :: zcu h l) ⟨rfl, e1.size, e1.val⟩ fun p hp => ?_
    rcases List.mem_cons.1 hp with rfl | hp
    ·rfl
    rcases List.mem_cons.1 hp with rfl | hp
    ·show zeP (zcu h l) 2 = _
     rw [zaP h _ _ _ hk.t2]
     show some (Value.pointer (some ⟨h.b 2, 0, none⟩)) = _
     rw [hb2]
     rfl
    ·rcases List.mem_singleton.1 hp with rfl
     show zeP (zcu h l) 3 = _
     rw [zaP h _ _ _ hk.t3]
     show some (Value.pointer (some ⟨h.b 3, 0, none⟩)) = _
     rw [hb3]
     rfl
   have hnL : ∀ y, W.heap.size ≤ y → y ∉ [b2, b3] := fun y hy hm => by
    rcases List.mem_cons.1 hm with rfl | hm
    ·have := (hw2 _ (by simp : y ∈ [y, b3, b5])).2; omega
    ·rcases List.mem_singleton.1 hm with rfl
     have := (hw2 _ (by simp : y ∈ [b2, y, b5])).2; omega
   have HV2 := zuq (c2 := [.one (.p (.v (.int .i64 0)))]) (c3 := [.one (.p (.v (.int .u64 ((g : Nat) : Int))))]) EA n23 h2 h3 rfl rfl
   refine zwu [.b 2 (fun y _ => y = b2), .b 3 (fun y _ => y = b3)] (Kn := fun k l m R => x.1 < g ∧ zaB m 2 = some (.blk [.one (.p (.v (.int .i64 0)))] 38) ∧ zaB m 3 = some (.blk [.one (.p (.v (.int .u64 ((x.1 : Nat) : Int))))] 32) ∧ SF.b 2 (fun y _ => y = b2) ∈ R ∧ SF.b 3 (fun y _ => y = b3) ∈ R)
    (Kr := fun k l m R => ¬ x.1 < g ∧ zaB m 2 = some (.blk [.one (.p (.v (.int .i64 1)))] 38) ∧ SF.b 2 (fun y _ => y = b2) ∈ R) zaw rfl rfl (hnL _ (by omega)) (by omega) (hnL _ (by omega)) (by omega) HV2 ?_ (fun h r hr w w' hw => ?_) (fun k l m R h B hk HB hF => ?_) fun k l m R h B hk HB hF => ?_
   ·conv => whnf
    refine ⟨fun y hy => hy, ?_⟩
    conv => whnf
    refine vIf (fun hc => ?_) fun hc => ?_
    ·have hc : ((x.1 : Nat) : Int) ≥ ((g : Nat) : Int) := of_decide_eq_true hc
     conv => whnf
     exact ⟨by omega, rfl, .head _⟩
    ·have hc : ¬ ((x.1 : Nat) : Int) ≥ ((g : Nat) : Int) := of_decide_eq_false hc
     conv => whnf
     exact ⟨by omega, rfl, rfl, .head _, .tail _ (.head _)⟩
   ·rcases List.mem_cons.1 hr with rfl | hr
    ·exact hw
    ·rcases List.mem_singleton.1 hr with rfl
     exact hw
   ·obtain ⟨k1, k2, k3, k4, k5⟩ := hk
    have f2 : h.b 2 = b2 := (HB.facts _ (zaO.2 ⟨_, k4, rfl⟩)).now
    have f3 : h.b 3 = b3 := (HB.facts _ (zaO.2 ⟨_, k5, rfl⟩)).now
    refine ⟨h1.trans hF fun y hy => ?_, by rw [← f2]; exact zb5 HB k2, x.1, by rw [← f3]; exact zb5 HB k3, by rw [hgo, decide_eq_true k1, Bool.true_and]⟩
    rcases List.mem_cons.1 hy with rfl | hy
    ·exact .inr (by omega)
    ·exact .inl hy
   ·obtain ⟨k1, k2, k4⟩ := hk
    have f2 : h.b 2 = b2 := (HB.facts _ (zaO.2 ⟨_, k4, rfl⟩)).now
    refine ⟨rfl, h1.trans hF fun y hy => ?_, by rw [← f2]; exact zb5 HB k2, by rw [hgo, decide_eq_false k1, Bool.false_and]⟩
    rcases List.mem_cons.1 hy with rfl | hy
    ·exact .inr (by omega)
    ·exact .inl hy
  ·rintro A ⟨h1, h2, g, h3, h4⟩ hD hDlt
   have hma : zgr a W.heap.size = dfr [mark W.heap.size] a := by unfold zgr dfr mark; rw [hds]
   rw [hma]
   have hz : zcH r = 0 := by
    have : rv.drop r.left.length = [] := by rw [← hrl]; exact List.drop_length
    rw [this] at h4
    rw [hrv] at h4
    simp [zcH, zq2, hk.g1, hk.g2, h4, zgH]
   have EA : Env a 28 (zcu (hn2 b2 b3) [(2, atS 2 0)]) := hEa.sel fun p hp => by
    rcases List.mem_singleton.1 hp with rfl
    rw [zaP h _ _ _ hk.t2]
    show some (Value.pointer (some ⟨h.b 2, 0, none⟩)) = _
    rw [hb2]
    rfl
   have HV2 := zuq (c2 := [.one (.p (.v (.int .i64 0)))]) (c3 := [.one (.p (.v (.int .u64 ((g : Nat) : Int))))]) EA n23 h2 h3 rfl rfl
   refine zkc (ds := [mark W.heap.size]) (Kn := fun _ _ _ _ => False) (Kx := noX) (Kr := fun k l m R => zaB m 2 = some (.blk [.one (.p (.v (.int .i64 0)))] 38) ∧ zbD l 2 = some (atS 2 0) ∧ SF.b 2 (fun y _ => y = b2) ∈ R) zaw _ rfl (by
    conv => whnf
    exact ⟨rfl, rfl, .head _⟩) HV2 (fun _ _ _ _ _ _ _ hk _ => hk.elim) (fun _ _ _ _ _ _ _ _ hk _ => hk.elim) fun k l m R h a B hk' HB => ?_
   obtain ⟨k1, k2, k4⟩ := hk'
   have f2 : h.b 2 = b2 := (HB.sp.facts _ (zaO.2 ⟨_, k4, rfl⟩)).now
   rw [hRr]
   refine zxH (HB.env.sel fun p hp => ?_) (by have := zb5 HB.sp k1; rw [f2] at this; exact this) ((HB.frm.block _ hDlt fun hm => ?_).trans hD) ((hFw.trans h1 fun y hy => ?_).trans HB.frm fun y hy => ?_) hFw.size hX hz
   ·rcases List.mem_singleton.1 hp with rfl
    rw [zaP h _ _ _ k2]
    show some (Value.pointer (some ⟨h.b 2, 0, none⟩)) = _
    rw [f2]
   ·rcases List.mem_cons.1 hm with e | hm
    ·have := (hw2 b2 (by simp)).2; omega
    ·have := (hw2 b3 (by simp)).2
     have := List.mem_singleton.1 hm
     omega
   ·exact .inr (hw2 y (by rcases List.mem_cons.1 hy with rfl | hy; simp; rcases List.mem_singleton.1 hy with rfl; simp)).1
   ·exact .inr (hw2 y (by rcases List.mem_cons.1 hy with rfl | hy; simp; rcases List.mem_singleton.1 hy with rfl; simp)).1
  ·rintro c A ⟨rfl, h1, h2, h3⟩ hD
   refine wpIn_ret ?_
   have hma : zgr a W.heap.size = dfr [mark W.heap.size] a := by unfold zgr dfr mark; rw [hds]
   rw [hma]
   have hz : zcH r = 1 := by
    rw [hrv] at h3
    simp [zcH, zq2, h3]
   show bodyPostM (zby none) 5 Tryz.prog Tryz.f83 Rr .ret (dfr [mark W.heap.size] a) A
   rw [hRr]
   refine zxH (hEa.sel fun p hp => ?_) h2 hD (hFw.trans h1 fun y hy => ?_) hFw.size hX hz
   ·rcases List.mem_singleton.1 hp with rfl
    rw [zaP h _ _ _ hk.t2]
    show some (Value.pointer (some ⟨h.b 2, 0, none⟩)) = _
    rw [hb2]
   ·exact .inr (hw2 y (by rcases List.mem_cons.1 hy with rfl | hy; simp; rcases List.mem_singleton.1 hy with rfl; simp)).1
end
end
section
open Go.RowKit
theorem zur : Inj zf0 := fun x a b h => by
 simp only [zf0, cl, Chunk.cells, List.cons_append, List.nil_append, List.append_cancel_left_eq, List.cons.injEq, Value.slice.injEq, and_true, true_and] at h
 exact Prod.ext h.1 h.2
section
variable {X : List Nat} {w : World}
theorem zAm (hX : ∀ k ∈ X, k < w.heap.size) (xs : List Rat) (q : Qd) (hq : St (SlQ zf0 xs q) w X) {g : FuncId} (hg : fnB Tryz.prog g = true) (p : Rat → Bool) (hp : ∀ y ∈ xs, ∀ (X : List Nat) (w : World) (μ : Qd), (∀ k ∈ X, k < w.heap.size) → St (SlQ zdQ y.left μ) w X → Ct Tryz.prog g [.agg (ca (zf0.ch y μ))] X w (zbu (p y)) [] []) :
  Ct Tryz.prog 107 [.slice q.1 xs.length q.2, .func (.func g) #[] #[]] X w (zaH .i64 (zjG p xs)) [] [] := by
 have hbig := SlQ.big hq
 refine vFn (k0 := 1) (rs := [.tmp 4]) (svs := [.a (.s (.p (.hd 0 xs.length))), .a (.s (.p (.v (.func (.func g) #[] #[]))))]) (R0 := [.sl 0 xs.length (SlF zf0 xs)]) (hnQ [q]) Tryz.ntmps107 Tryz.func107 rfl rfl rfl rfl rfl zaw (by kernel_rfl) hX (fun r hr => by rcases List.mem_singleton.1 hr with rfl; exact hq) ?_
 conv => whnf
 refine ⟨Nat, fun k l m R i => ⟨k, (8, zaH .i64 i) :: zbV [0, 1, 7] l, m, R⟩, fun i => i ≤ xs.length ∧ ∀ y ∈ xs.take i, p y = false, fun i => xs.length - i, ⟨0, [], [0], ⟨by omega, by simp⟩, zbW⟩, fun i hφ => ?_⟩
 conv => whnf
 refine vIf (fun h => ?_) fun h => ?_
 ·have hi : i < xs.length := by simpa [Sl.len] using h
  obtain ⟨x, hx⟩ : ∃ x, xs[i]? = some x := ⟨_, jP hi⟩
  have hxi : xs[i] = x := (List.getElem?_eq_some_iff.1 hx).2
  conv => whnf
  refine ⟨i, ⟨rfl, hi, hi⟩, ?_⟩
  conv => whnf
  refine zeT (zf9 zur (n := 34) (off := 0) (sub := [.key x.chain, .one (.p (.v (.int .u64 ((x.gen : Nat) : Int)))), .one (.p (.hd 1 x.left.length))]) (Rs := [.sl 1 x.left.length (SlF zdQ x.left)]) 0 (fun μ => [μ]) 1 hx rfl rfl rfl (by kernel_rfl) (.inl ⟨rfl, rfl⟩) (fun μ h hh => by
   have e : h.r 1 = μ := hh 0 (by omega)
   subst e
   rfl) fun μ h w Y hh hn r hr => by
    have e : h.r 1 = μ := hh 0 (by omega)
    rcases List.mem_singleton.1 hr with rfl
    subst e
    exact hn) rfl rfl ?_
  conv => whnf
  refine zak (sv := zbu (p x)) (rs := []) (Rs := []) rfl rfl rfl hg (fun h X w H => hp x (List.mem_of_getElem? hx) _ _ (h.r 1) H.xk (H.fact 0 rfl)) rfl rfl rfl ?_
  conv => whnf
  refine vIf (fun he => ?_) fun he => ?_
  ·conv => whnf
   refine zaF ?_
   rw [zhR hi hφ.2 (by rw [hxi]; exact he)]; rfl
  ·conv => whnf
   refine zd6 (by omega) (by omega) ?_
   conv => whnf
   exact ⟨i + 1, [], [1], ⟨⟨by omega, zfG hi hφ.2 (by rw [hxi]; exact he)⟩, Nat.sub_lt_sub_left hi (Nat.lt_succ_self i)⟩, zbW⟩
 ·have hi : i = xs.length := by
   have : ¬ i < xs.length := by simpa [Sl.len] using h
   omega
  conv => whnf
  refine zaF ?_
  rw [zfF (by rw [← List.take_length (l := xs), ← hi]; exact hφ.2)]; rfl
theorem zus (hX : ∀ k ∈ X, k < w.heap.size) (xs : List Rat) (q : Qd) (hq : St (SlQ zf0 xs q) w X) {g : FuncId} (hg : fnB Tryz.prog g = true) (p : Rat → Bool) (hp : ∀ y ∈ xs, ∀ (X : List Nat) (w : World) (μ : Qd), (∀ k ∈ X, k < w.heap.size) → St (SlQ zdQ y.left μ) w X → Ct Tryz.prog g [.agg (ca (zf0.ch y μ))] X w (zbu (p y)) [] []) :
  Ct Tryz.prog 84 [.slice q.1 xs.length q.2, .func (.func g) #[] #[]] X w (zbu (xs.any p)) [] [] := by
 refine vFn (k0 := 1) (rs := [.tmp 4]) (svs := [.a (.s (.p (.hd 0 xs.length))), .a (.s (.p (.v (.func (.func g) #[] #[]))))]) (R0 := [.sl 0 xs.length (SlF zf0 xs)]) (hnQ [q]) Tryz.ntmps84 Tryz.func84 rfl rfl rfl rfl rfl zaw (by kernel_rfl) hX (fun r hr => by rcases List.mem_singleton.1 hr with rfl; exact hq) ?_
 conv => whnf
 refine zak (sv := zaH .i64 (zjG p xs)) (rs := []) (Rs := []) rfl rfl rfl (by kernel_rfl) (fun h X w H => zAm H.xk xs _ (H.fact 0 rfl) hg p hp) rfl rfl rfl ?_
 have ha : (xs.any p) = decide (zjG p xs ≥ 0) := zjH.symm
 rw [ha]
 conv => whnf
 cases hb : decide (zjG p xs ≥ 0) with
 | true =>
  conv => whnf
  exact zaF rfl
 | false =>
  conv => whnf
  exact zaF rfl
theorem zut (hX : ∀ k ∈ X, k < w.heap.size) (r : Rat) (q : Qd) (hq : St (SlQ zdQ r.left q) w X) : Ct Tryz.prog 82 [.agg (ca (zf0.ch r q))] X w (zbu (!zq2 r)) [] [] := by
 refine vFn (k0 := 1) (rs := [.tmp 2]) (svs := [.a (.agg [.key r.chain, .one (.p (.v (.int .u64 ((r.gen : Nat) : Int)))), .one (.p (.hd 0 r.left.length))])]) (R0 := [.sl 0 r.left.length (SlF zdQ r.left)]) (hnQ [q]) Tryz.ntmps82 Tryz.func82 rfl rfl rfl rfl rfl zaw (by kernel_rfl) hX (fun r hr => by rcases List.mem_singleton.1 hr with rfl; exact hq) ?_
 conv => whnf
 cases hr : zq2 r with
 | true =>
  have e : zcH r = 0 := by simp [zcH, hr]
  refine zak (sv := zaH .i64 0) (rs := []) (Rs := []) rfl rfl rfl (by kernel_rfl) (fun h X w H => e ▸ zmV H.xk (H.fact 0 rfl)) rfl rfl rfl ?_
  conv => whnf
  exact zaF rfl
 | false =>
  have e : zcH r = 1 := by simp [zcH, hr]
  refine zak (sv := zaH .i64 1) (rs := []) (Rs := []) rfl rfl rfl (by kernel_rfl) (fun h X w H => e ▸ zmV H.xk (H.fact 0 rfl)) rfl rfl rfl ?_
  conv => whnf
  exact zaF rfl
structure Tre.good (t : Tre) : Prop where
 fits : t.fits
 cnt : t.ok = true → (zbn t.two t.ls t.ids.length).length ≤ 1000000
 up : t.ok = true → ∀ (j : Nat) (x : Nd), (zbn t.two t.ls t.ids.length)[j]? = some x → x.up < 0 ∨ (j < x.up.toNat ∧ x.up.toNat < (zbn t.two t.ls t.ids.length).length)
def Mem.path (x : Mem) : List Int × List Nd × Int := zea x.t.two x.t.kd x.t.ids x.t.ls x.id
def Mem.ok (x : Mem) : Bool := x.t.ok && (decide (x.e.n ≤ 1099511627776) && (decide (x.chains.length = x.t.ids.length) && (x.path.2.2 == 0 && (decide (x.path.1.length = x.secrets.length + 1) && !(x.chains.any fun r => !zq2 r)))))
def Mem.way (x : Mem) : List Int := if x.ok then x.path.1 else []
def Mem.err (x : Mem) : Int := if x.ok then 0 else 1
def Mem.val (x : Mem) (q1 q2 q3 q4 q5 : Qd) : Value := (zCh x 0).den (hnQ [q1, q2, q3, q4, q5])
structure Mem.at_ (x : Mem) (q1 q2 q3 q4 q5 : Qd) (w : World) (X : List Nat) : Prop where
 ids : St (SlQ zaS x.t.ids q1) w X
 ls : St (SlQ (zfY zaS) x.t.ls q2) w X
 ps : St (SlQ zeQ x.t.ps q3) w X
 secrets : St (SlQ zeQ x.secrets q4) w X
 chains : St (SlQ zf0 x.chains q5) w X
theorem Mem.at_.all {x : Mem} {q1 q2 q3 q4 q5 : Qd} (h : x.at_ q1 q2 q3 q4 q5 w X) : ∀ r ∈ zaN (hnQ [q1, q2, q3, q4, q5]) (zCi x 0), St r w X := fun r hr => by
 rcases List.mem_cons.1 hr with rfl | hr
 ·exact h.ids
 rcases List.mem_cons.1 hr with rfl | hr
 ·exact h.ls
 rcases List.mem_cons.1 hr with rfl | hr
 ·exact h.ps
 rcases List.mem_cons.1 hr with rfl | hr
 ·exact h.secrets
 ·rcases List.mem_singleton.1 hr with rfl
  exact h.chains
theorem zuu {t : Tre} : t.nodes.2 = if t.ok then 0 else 1 := by unfold Tre.nodes; cases t.ok <;> rfl
theorem zCk {x : Mem} {q1 q2 q3 q4 q5 : Qd} (hX : ∀ k ∈ X, k < w.heap.size) (hg : x.t.good) (hs : x.secrets.length ≤ 1000000) (hm : x.at_ q1 q2 q3 q4 q5 w X) :
  Ct Tryz.prog 48 [x.val q1 q2 q3 q4 q5] X w (.tup [.s (.p (.hd 0 x.way.length)), .s (.p (.v (.int .i64 x.err)))]) [.gone] [.sl 0 x.way.length (SlF zaS x.way)] := by
 have bad : x.ok = false → x.way = [] ∧ x.err = 1 := fun h => ⟨by simp [Mem.way, h], by simp [Mem.err, h]⟩
 have hbs := SlQ.big hm.secrets
 refine vFn (k0 := 5) (rs := [.tmp 2, .tmp 3]) (svs := [.a (zCh x 0)]) (R0 := zCi x 0) (hnQ [q1, q2, q3, q4, q5]) Tryz.ntmps48 Tryz.func48 rfl rfl rfl rfl rfl zaw (by kernel_rfl) hX hm.all ?_
 conv => whnf
 cases h1 : x.t.ok with
 | false =>
  have e1 : x.t.nodes.2 = 1 := by rw [zuu, h1]; rfl
  obtain ⟨b1, b2⟩ := bad (by simp [Mem.ok, h1])
  rw [b1, b2]
  refine zak (sv := zaH .i64 1) (rs := []) (Rs := []) rfl rfl rfl (by kernel_rfl) (fun h X w H => e1 ▸ ziY H.xk x.t hg.fits (h.r 0) (h.r 1) (h.r 2) (H.fact 0 rfl) (H.fact 1 rfl) (H.fact 2 rfl)) rfl rfl rfl ?_
  conv => whnf
  first | exact zaY [(0, 6)] [0] (.inr ⟨rfl, rfl, trivial⟩) trivial rfl ⟨.inr (za8 rfl), trivial⟩ | exact zaY [(0, 9)] [0] (.inr ⟨rfl, rfl, trivial⟩) trivial rfl ⟨.inr (za8 rfl), trivial⟩
 | true =>
  have e1 : x.t.nodes.2 = 0 := by rw [zuu, h1]; rfl
  refine zak (sv := zaH .i64 0) (rs := []) (Rs := []) rfl rfl rfl (by kernel_rfl) (fun h X w H => e1 ▸ ziY H.xk x.t hg.fits (h.r 0) (h.r 1) (h.r 2) (H.fact 0 rfl) (H.fact 1 rfl) (H.fact 2 rfl)) rfl rfl rfl ?_
  conv => whnf
  by_cases h2 : x.e.n ≤ 1099511627776
  case neg =>
   obtain ⟨b1, b2⟩ := bad (by simp [Mem.ok, h1, h2])
   rw [b1, b2]
   refine zak (sv := zaH .i64 1) (rs := []) (Rs := []) rfl rfl rfl (by kernel_rfl) (fun h X w H => by
    have := zin (n := x.e.n) (a := x.e.init) (b := x.e.app) (c := x.e.confirm) (d := x.e.member) (e := x.e.hash) H.xk
    rw [if_neg h2] at this
    exact this) rfl rfl rfl ?_
   conv => whnf
   first | exact zaY [(0, 6)] [0] (.inr ⟨rfl, rfl, trivial⟩) trivial rfl ⟨.inr (za8 rfl), trivial⟩ | exact zaY [(0, 9)] [0] (.inr ⟨rfl, rfl, trivial⟩) trivial rfl ⟨.inr (za8 rfl), trivial⟩
  refine zak (sv := zaH .i64 0) (rs := []) (Rs := []) rfl rfl rfl (by kernel_rfl) (fun h X w H => by
   have := zin (n := x.e.n) (a := x.e.init) (b := x.e.app) (c := x.e.confirm) (d := x.e.member) (e := x.e.hash) H.xk
   rw [if_pos h2] at this
   exact this) rfl rfl rfl ?_
  conv => whnf
  refine vIf (fun hc => ?_) fun hc => ?_
  ·have h3 : ¬ x.chains.length = x.t.ids.length := by
    have : (((x.chains.length : Nat) : Int) != ((x.t.ids.length : Nat) : Int)) = true := hc
    have := bne_iff_ne.1 this
    omega
   obtain ⟨b1, b2⟩ := bad (by simp [Mem.ok, h3])
   rw [b1, b2]
   conv => whnf
   first | exact zaY [(0, 6)] [0] (.inr ⟨rfl, rfl, trivial⟩) trivial rfl ⟨.inr (za8 rfl), trivial⟩ | exact zaY [(0, 9)] [0] (.inr ⟨rfl, rfl, trivial⟩) trivial rfl ⟨.inr (za8 rfl), trivial⟩
  have h3 : x.chains.length = x.t.ids.length := by
   have : (((x.chains.length : Nat) : Int) != ((x.t.ids.length : Nat) : Int)) = false := hc
   have := bne_eq_false_iff_eq.1 this
   omega
  conv => whnf
  obtain ⟨⟨wy, ns, er⟩, hp⟩ : ∃ r, x.path = r := ⟨_, rfl⟩
  refine zak (sv := .tup [.s (.p (.hd 0 wy.length)), .s (.p (.v (.int .i64 er)))]) (rs := [.gone]) (Rs := [.sl 0 wy.length (SlF zaS wy)]) rfl rfl rfl (by kernel_rfl) (fun h X w H => by
   have := zyt H.xk x.t.two x.t.kd rfl x.t.ids x.t.ls x.id (h.r 0) (h.r 1) (H.fact 0 rfl) (H.fact 1 rfl) hg.fits.len hg.fits.lv hg.fits.ok (hg.cnt h1) (hg.up h1)
   rw [show zea x.t.two x.t.kd x.t.ids x.t.ls x.id = (wy, ns, er) from hp] at this
   exact this) rfl rfl rfl ?_
  conv => whnf
  cases h4 : (er != 0) with
  | true =>
   have h4' : ¬ er = 0 := bne_iff_ne.1 h4
   obtain ⟨b1, b2⟩ := bad (by simp [Mem.ok, hp, h4'])
   rw [b1, b2]
   conv => whnf
   first | exact zaY [(0, 6)] [0] (.inr ⟨rfl, rfl, trivial⟩) trivial rfl ⟨.inr (za8 rfl), trivial⟩ | exact zaY [(0, 9)] [0] (.inr ⟨rfl, rfl, trivial⟩) trivial rfl ⟨.inr (za8 rfl), trivial⟩
  | false =>
   obtain rfl : er = 0 := bne_eq_false_iff_eq.1 h4
   conv => whnf
   refine zd6 (by omega) (by show ((x.secrets.length : Nat) : Int) + 1 ≤ _; omega) ?_
   conv => whnf
   refine vIf (fun hc => ?_) fun hc => ?_
   ·have h5 : ¬ wy.length = x.secrets.length + 1 := by
     have : (((wy.length : Nat) : Int) != ((x.secrets.length : Nat) : Int) + 1) = true := hc
     have := bne_iff_ne.1 this
     omega
    obtain ⟨b1, b2⟩ := bad (by simp [Mem.ok, hp, h5])
    rw [b1, b2]
    conv => whnf
    first | exact zaY [(0, 6)] [0] (.inr ⟨rfl, rfl, trivial⟩) trivial rfl ⟨.inr (za8 rfl), trivial⟩ | exact zaY [(0, 9)] [0] (.inr ⟨rfl, rfl, trivial⟩) trivial rfl ⟨.inr (za8 rfl), trivial⟩
   have h5 : wy.length = x.secrets.length + 1 := by
    have : (((wy.length : Nat) : Int) != ((x.secrets.length : Nat) : Int) + 1) = false := hc
    have := bne_eq_false_iff_eq.1 this
    omega
   conv => whnf
   cases h6 : x.chains.any fun r => !zq2 r with
   | true =>
    obtain ⟨b1, b2⟩ := bad (by simp [Mem.ok, h6])
    rw [b1, b2]
    refine zak (sv := zbu true) (rs := []) (Rs := []) rfl rfl rfl (by kernel_rfl) (fun h X w H => h6 ▸ zus H.xk x.chains _ (H.fact 5 rfl) (by kernel_rfl) (fun r => !zq2 r) fun y hy X w μ hX hS => zut hX y μ hS) rfl rfl rfl ?_
    conv => whnf
    first | exact zaY [(0, 6)] [0] (.inr ⟨rfl, rfl, trivial⟩) trivial rfl ⟨.inr (za8 rfl), trivial⟩ | exact zaY [(0, 9)] [0] (.inr ⟨rfl, rfl, trivial⟩) trivial rfl ⟨.inr (za8 rfl), trivial⟩
   | false =>
    have hok : x.ok = true := by simp only [Mem.ok, h1, h2, h3, hp, h5, h6]; rfl
    have hw : x.way = wy := by rw [Mem.way, if_pos hok, hp]
    have he : x.err = 0 := by rw [Mem.err, if_pos hok]
    rw [hw, he]
    refine zak (sv := zbu false) (rs := []) (Rs := []) rfl rfl rfl (by kernel_rfl) (fun h X w H => h6 ▸ zus H.xk x.chains _ (H.fact 5 rfl) (by kernel_rfl) (fun r => !zq2 r) fun y hy X w μ hX hS => zut hX y μ hS) rfl rfl rfl ?_
    conv => whnf
    exact zaY [(0, 6)] [0] (.inl rfl) trivial rfl ⟨.inl rfl, trivial⟩
theorem zuv {x : Mem} {q1 q2 q3 q4 q5 : Qd} (hX : ∀ k ∈ X, k < w.heap.size) (hg : x.t.good) (hs : x.secrets.length ≤ 1000000) (hm : x.at_ q1 q2 q3 q4 q5 w X) :
  Ct Tryz.prog 26 [x.val q1 q2 q3 q4 q5] X w (zaH .i64 x.err) [] [] := by
 refine vFn (k0 := 5) (rs := [.tmp 2]) (svs := [.a (zCh x 0)]) (R0 := zCi x 0) (hnQ [q1, q2, q3, q4, q5]) Tryz.ntmps26 Tryz.func26 rfl rfl rfl rfl rfl zaw (by kernel_rfl) hX hm.all ?_
 conv => whnf
 refine zak (sv := .tup [.s (.p (.hd 0 x.way.length)), .s (.p (.v (.int .i64 x.err)))]) (rs := [.gone]) (Rs := [.sl 0 x.way.length (SlF zaS x.way)]) rfl rfl rfl (by kernel_rfl) (fun h X w H => zCk (q1 := h.r 0) (q2 := h.r 1) (q3 := h.r 2) (q4 := h.r 3) (q5 := h.r 4) H.xk hg hs ⟨H.fact 0 rfl, H.fact 1 rfl, H.fact 2 rfl, H.fact 3 rfl, H.fact 4 rfl⟩) rfl rfl rfl ?_
 conv => whnf
 exact zaF rfl
end
end
section
open Go.RowKit
theorem zuw {v : Nat} (hv : v < pN) (h : ∀ i, i < 32 → za2 v i = 0) : v = 0 := by
 have cg : ∀ {u v : Nat → Nat}, (∀ i, i < 32 → u i = v i) → ∀ i, i < 32 → znI u i = znI v i := fun {u v} h i hi => by
  unfold znI
  split
  ·rw [h 31 (by decide)]
  ·exact h i hi
 have h1 := zmx v hv
 have h2 : zmY (za2 v) = zmY (za2 0) := zqN (cg fun i hi => by rw [h i hi, zqM])
 rw [h1, zmx 0 zdz] at h2
 exact h2
theorem zja (b : List Nat) : zc4 [] ≠ zc4 (zod b) := by
 unfold zod
 have hb := zz7 (fun i => b.getD i 0)
 have hl := zzg (fun i => b.getD i 0) 9
 revert hb hl
 generalize zdO (fun i => b.getD i 0) 9 = v
 intro hb hl h
 have h1 := zni.1 h
 refine hb (zuw hl fun i hi => ?_)
 have h2 := h1 i hi
 rw [zfb _ i hi] at h2
 exact h2.symm
theorem zAn {kd : Int} {n : Nat} (hk : kd = 1 ∨ kd = 2) (hn : n ≤ 1048576) : zg6 kd [(n : Int)] [] = true := by
 have h1 : zw6 (n : Int) = false := by unfold zw6; simp; omega
 have h2 : zdw [(n : Int)] [] = true := by
  unfold zdw
  rw [show ([(n : Int)].any zw6) = false by simp [h1], show ziV [(n : Int)] = true by rfl, show zd9 [(n : Int)].length [] = true by rfl]
  rfl
 unfold zg6
 rw [h2]
 rcases hk with rfl | rfl <;> rfl
theorem zAo {kd id : Int} {p : List Nat} (hm : zg6 kd [id] [] = true) (hp : zc4 [] ≠ zc4 p) : (zbh kd id p).ok = true := by
 have h := zqe hm hp
 cases ho : (zbh kd id p).ok with
 | true => rfl
 | false =>
  unfold Tre.nodes at h
  rw [ho, if_neg (by simp)] at h
  simp at h
theorem zux (kd id : Int) (p : List Nat) : (zbh kd id p).good := by
 have e : zbn (zbh kd id p).two (zbh kd id p).ls (zbh kd id p).ids.length = [ziq] := rfl
 refine ⟨zmS kd id p, fun _ => ?_, fun _ => ?_⟩
 ·rw [e]; decide
 ·rw [e]
  intro j x h
  match j with
  | 0 => obtain rfl := Option.some.inj h; exact .inl (by decide)
  | j + 1 => simp at h
theorem zuy {gt : Nat → Nat} {kd : Int} {n : Nat} {seed : List Nat} (hm : zg6 kd [(n : Int)] [] = true) : (zuN gt kd n seed).path = ([0], [ziq], 0) := by
 show zea (kd == 1) kd [(n : Int)] [] n = _
 unfold zea
 rw [if_pos hm, if_pos (by simp)]
 have e : zbn (kd == 1) [] [(n : Int)].length = [ziq] := rfl
 have e2 : zdW [(n : Int)] n = 0 := by unfold zdW; simp
 rw [e, e2]
 rfl
theorem zAp {gt : Nat → Nat} {kd : Int} {n : Nat} {seed : List Nat} (hm : zg6 kd [(n : Int)] [] = true) : (zuN gt kd n seed).ok = true := by
 have h1 : (zuN gt kd n seed).t.ok = true := zAo hm (zja _)
 unfold Mem.ok
 rw [h1, zuy hm]
 rfl
def zq3 : List Nat := 1 :: List.replicate 31 0
section
variable {X : List Nat} {w : World} {gt : Nat → Nat}
theorem zuz (hX : ∀ k ∈ X, k < w.heap.size) (hG : St (zc7 gt 2) w X) : Ct Tryz.prog 8 [] X w (zbu true) [] [] := by
 have hm := zAn (kd := 1) (n := 5) (.inl rfl) (by decide)
 have hok := zAp (gt := gt) (seed := zq3) hm
 have hgd : (zuN gt 1 5 zq3).t.good := zux _ _ _
 obtain ⟨pt, lf, ep, rt, hx⟩ : ∃ pt lf ep rt, zuN gt 1 5 zq3 = ⟨zbh 1 5 pt, 5, lf, [], [], ep, [rt]⟩ := ⟨_, _, _, _, rfl⟩
 have her : (zuN gt 1 5 zq3).err = 0 := by rw [Mem.err, if_pos hok]
 rw [hx] at her hgd
 refine vFn (k0 := 0) (rs := [.tmp 0]) (svs := []) (R0 := [.c (zc7 gt 2)]) (hnQ []) Tryz.ntmps8 Tryz.func8 rfl rfl rfl rfl rfl zaw (by kernel_rfl) hX (fun r hr => by rcases List.mem_singleton.1 hr with rfl; exact hG) ?_
 conv => whnf
 refine zCu (.a (.agg [.key zq3])) (fun h w => zhE (n := 32) (z := [.one (bv 0), .row 31 fun _ => bv 0]) [.key zq3] rfl (by kernel_rfl) (by kernel_rfl) ⟨_, [.one _], 0, _, rfl, rfl, rfl, rfl, rfl⟩ (by kernel_rfl)) rfl rfl ?_
 conv => whnf
 refine zak (sv := .tup [zCh ⟨zbh 1 5 pt, 5, lf, [], [], ep, [rt]⟩ 0, .s (.p (.v (.int .i64 0)))]) (rs := [.gone, .gone, .gone, .gone, .gone]) (Rs := zCi ⟨zbh 1 5 pt, 5, lf, [], [], ep, [rt]⟩ 0) rfl rfl rfl (by kernel_rfl) (fun h X w H => hx ▸ zAi (kd := 1) (n := 5) hm (zja _) (by decide) rfl (by decide) H.xk (H.fact 0 rfl)) rfl rfl rfl ?_
 conv => whnf
 refine zak (sv := zaH .i64 0) (rs := []) (Rs := []) rfl rfl rfl (by kernel_rfl) (fun h X w H => her ▸ zuv (x := ⟨zbh 1 5 pt, 5, lf, [], [], ep, [rt]⟩) (q1 := h.r 0) (q2 := h.r 1) (q3 := h.r 2) (q4 := h.r 3) (q5 := h.r 4) H.xk hgd (Nat.zero_le _) ⟨H.fact 0 rfl, H.fact 1 rfl, H.fact 2 rfl, H.fact 3 rfl, H.fact 4 rfl⟩) rfl rfl rfl ?_
 conv => whnf
 exact zaF rfl
end
end
section
open Go.RowKit
theorem Ct.frz {α : Type} {T : Ty α} [Dec T] {P : Program} {f : FuncId} {args : List Value} {X : List Nat} {w : World} {sv : SV} {zs : List α} {e : Nat} (hX : ∀ k ∈ X, k < w.heap.size) (h : Ct P f args X w sv [zbF T zs e] [.q 0 (zdd T zs)]) : Ct P f args X w sv [.gone] [.sl 0 zs.length (SlF T zs)] := by
 refine Calls.mono h ?_
 rintro e w' ⟨h, rfl, S⟩
 have hmx : ∀ k ∈ zab (zad h [] [(0, zbF T zs e)]), k ∉ X := fun k hk hm => by
  have h1 := hX k hm
  have h2 := (S.mine k hk).resolve_left (by simp)
  omega
 obtain ⟨h1, h2⟩ := zjL (h := h) (m := [(0, zbF T zs e)]) (R := [.q 0 (zdd T zs)]) (i := 0) rfl (.head _) (Sp.of_sep (show Sep X [] w w' (zad h [] [(0, zbF T zs e)]) _ from S) hmx)
 exact ⟨h, rfl, S.frm, S.xlt, h1.holds, h1.apart, fun j hj => S.mine j (h2 j hj), fun r hr => h1.facts r (by rcases List.mem_singleton.1 hr with rfl; exact List.mem_cons_self ..)⟩
section
variable {X : List Nat} {w : World} {gt : Nat → Nat} {q : Qd} {app : List Nat} {ids : List Int}
theorem zuA {c : List Nat} {g : Nat} (q1 q2 : Qd) (hX : ∀ k ∈ X, k < w.heap.size) : Ct Tryz.prog 13 [.agg (ca (zf0.ch ⟨c, g, []⟩ q1)), .agg (ca (zf0.ch ⟨c, g, []⟩ q2))] X w (zbu true) [] [] := by
 refine vFn (k0 := 2) (rs := [.tmp 4]) (svs := [.a (.agg [.key c, .one (.p (.v (.int .u64 ((g : Nat) : Int)))), .one (.p (.hd 0 0))]), .a (.agg [.key c, .one (.p (.v (.int .u64 ((g : Nat) : Int)))), .one (.p (.hd 1 0))])]) (R0 := []) (hnQ [q1, q2]) Tryz.ntmps13 Tryz.func13 rfl rfl rfl rfl rfl zaw (by kernel_rfl) hX (fun r hr => by cases hr) ?_
 conv => whnf
 rw [show (!decide (zc4 c = zc4 c)) = false by simp]
 conv => whnf
 rw [show (((g : Nat) : Int) != ((g : Nat) : Int)) = false by simp]
 conv => whnf
 refine ⟨Unit, fun k l m R _ => ⟨k, (30, zaH .i64 0) :: zbV [29] l, m, R⟩, fun _ => True, fun _ => 0, ⟨(), [], [], trivial, zbW⟩, fun _ _ => ?_⟩
 conv => whnf
 exact zaF rfl
def ziu (ids : List Int) : Bool := ids.any fun id => decide (id < 0) || decide (id > 1048576)
theorem ziP (hk32 : app.length = 32) (hkb : ∀ x ∈ app, x < 256) (hX : ∀ k ∈ X, k < w.heap.size) (hq : St (SlQ zaS ids q) w X) (hG : St (zc7 gt 2) w X) : Ct Tryz.prog 4 [.agg (ca [.key app]), .slice q.1 ids.length q.2] X w (zbu true) [] [] := by
 refine vFn (k0 := 1) (rs := [.tmp 4]) (svs := [.a (.agg [.key app]), .a (.s (.p (.hd 0 ids.length)))]) (R0 := [.sl 0 ids.length (SlF zaS ids), .c (zc7 gt 2)]) (hnQ [q]) Tryz.ntmps4 Tryz.func4 rfl rfl rfl rfl rfl zaw (by kernel_rfl) hX (fun r hr => by
  rcases List.mem_cons.1 hr with rfl | hr
  ·exact hq
  ·rcases List.mem_singleton.1 hr with rfl; exact hG) ?_
 conv => whnf
 refine zak (sv := zbu true) (rs := []) (Rs := []) rfl rfl rfl (by kernel_rfl) (fun h X w H => zuz H.xk (H.fact 1 rfl)) rfl rfl rfl ?_
 conv => whnf
 refine vIf (fun hc => ?_) fun hc => ?_
 ·conv => whnf
  exact zaF rfl
 have hlen : ids.length ≤ 50 := by
  have : ¬ ((ids.length : Nat) : Int) > 50 := of_decide_eq_false hc
  omega
 conv => whnf
 by_cases hall : ∀ id ∈ ids, zq1 id
 case pos =>
  obtain ⟨rl, hrl⟩ : ∃ rl, rl = zeO gt app ids := ⟨_, rfl⟩
  have hrll : rl.length = ids.length := by rw [hrl]; unfold zeO; rw [List.length_map]
  refine zak (sv := .tup [.s (.p (.hd 0 ids.length)), .s (.p (.v (.int .i64 0)))]) (rs := [.gone]) (Rs := [.sl 0 ids.length (SlF zf0 rl)]) rfl rfl rfl (by kernel_rfl) (fun h X w H => ?_) rfl rfl rfl ?_
  ·have := Ct.frz H.xk (zi9 (gt := gt) hall (by omega) hk32 hkb H.xk (H.fact 0 rfl) (H.fact 1 rfl))
   rw [← hrl, hrll] at this
   exact this
  conv => whnf
  refine vIf (fun hc => ?_) fun hc => ?_
  ·have : (((ids.length : Nat) : Int) != ((ids.length : Nat) : Int)) = true := hc
   simp at this
  conv => whnf
  refine ⟨Nat, fun k l m R i => ⟨k, (66, zaH .i64 i) :: zbV [2, 5, 6, 64, 65] l, m, R⟩, fun i => i ≤ ids.length, fun i => ids.length - i, ⟨0, [], [0, 1, 2], Nat.zero_le _, zbW⟩, fun i hi => ?_⟩
  conv => whnf
  refine vIf (fun hc => ?_) fun hc => ?_
  ·have hi2 : i < ids.length := by
    have : (i : Int) < ((ids.length : Nat) : Int) := of_decide_eq_true hc
    omega
   obtain ⟨id, hid⟩ : ∃ id, ids[i]? = some id := ⟨_, jP hi2⟩
   obtain ⟨h0, h1⟩ := hall id (List.mem_of_getElem? hid)
   have hidn : id = ((id.toNat : Nat) : Int) := by omega
   have hri : rl[i]? = some (zen gt app id) := by rw [hrl]; unfold zeO; rw [List.getElem?_map, hid]; rfl
   conv => whnf
   refine ⟨i, ⟨rfl, hi2, hi2⟩, ?_⟩
   conv => whnf
   refine zbE (zbr (T := zaS) (sv := zaH .i64 id) 1 hid (fun _ => rfl) rfl rfl rfl (by kernel_rfl) (fun _ => .inr ⟨rfl, rfl, rfl⟩)) rfl rfl ?_
   conv => whnf
   obtain ⟨c, hcc⟩ : ∃ c, c = zmP gt app id.toNat := ⟨_, rfl⟩
   have hri : rl[i]? = some ⟨c, 0, []⟩ := by rw [hri, hcc]; rfl
   refine zak (sv := .tup [zCe c 0 zCf, .s (.p (.v (.int .i64 0)))]) (rs := []) (Rs := []) rfl rfl rfl (by kernel_rfl) (fun h X w H => by
    have := zim (gt := gt) (n := id.toNat) (by omega) hk32 hkb H.xk (H.fact 2 rfl)
    rw [← hidn, ← hcc] at this
    exact this) rfl rfl rfl ?_
   conv => whnf
   refine zbd 8 [] (by kernel_rfl) ?_
   conv => whnf
   refine ⟨i, ⟨rfl, hi2, hi2⟩, ?_⟩
   conv => whnf
   refine za3 (zf9 zur (x := ⟨c, 0, []⟩) (n := 34) (off := 0) (sub := [.key c, .one (.p (.v (.int .u64 0))), .one (.p (.hd 4 0))]) (Rs := []) 0 (fun μ => [μ]) 1 hri rfl rfl rfl (by kernel_rfl) (.inl ⟨rfl, rfl⟩) (fun μ h hh => by
    have e : h.r 4 = μ := hh 0 (by omega)
    subst e
    rfl) fun μ h w Y hh hn r hr => by cases hr) ?_
   conv => whnf
   refine zak (sv := zbu true) (rs := []) (Rs := []) rfl rfl rfl (by kernel_rfl) (fun h X w H => zuA (c := c) (g := 0) (none, 0) (h.r 4) H.xk) rfl rfl rfl ?_
   conv => whnf
   refine zd6 (by omega) (by omega) ?_
   conv => whnf
   exact ⟨i + 1, [], [0, 1, 2], ⟨hi2, Nat.sub_lt_sub_left hi2 (Nat.lt_succ_self i)⟩, zbW⟩
  ·conv => whnf
   exact zaF rfl
 case neg =>
  have hbad : ∃ id ∈ ids, ¬ zq1 id := by
   refine Classical.byContradiction fun hn => hall fun id hm => Classical.byContradiction fun h2 => hn ⟨id, hm, h2⟩
  refine zak (sv := .tup [.s (.p (.v (.slice none 0 0))), .s (.p (.v (.int .i64 1)))]) (rs := []) (Rs := []) rfl rfl rfl (by kernel_rfl) (fun h X w H => zum (gt := gt) hbad (by omega) hk32 hkb H.xk (H.fact 0 rfl) (H.fact 1 rfl)) rfl rfl rfl ?_
  conv => whnf
  refine ⟨Nat × Bool, fun k l m R g => ⟨k, (32, zaH .i64 g.1) :: (8, zbu g.2) :: zbV [1, 5, 6, 7, 30, 31] l, m, R⟩, fun g => g.1 ≤ ids.length ∧ g.2 = ziu (ids.take g.1), fun g => ids.length - g.1, ⟨(0, false), [], [0, 1], ⟨Nat.zero_le _, rfl⟩, zbW⟩, fun g hg => ?_⟩
  obtain ⟨i, b⟩ := g
  obtain ⟨hi, hb⟩ : i ≤ ids.length ∧ b = ziu (ids.take i) := hg
  conv => whnf
  refine vIf (fun hc => ?_) fun hc => ?_
  ·have hi2 : i < ids.length := by
    have : (i : Int) < ((ids.length : Nat) : Int) := of_decide_eq_true hc
    omega
   obtain ⟨id, hid⟩ : ∃ id, ids[i]? = some id := ⟨_, jP hi2⟩
   have hnext : ziu (ids.take (i + 1)) = (b || (decide (id < 0) || decide (id > 1048576))) := by
    rw [hb]
    unfold ziu
    rw [List.take_add_one, hid, List.any_append]
    simp
   conv => whnf
   refine ⟨i, ⟨rfl, hi2, hi2⟩, ?_⟩
   conv => whnf
   refine zbE (zbr (T := zaS) (sv := zaH .i64 id) 0 hid (fun _ => rfl) rfl rfl rfl (by kernel_rfl) (fun _ => .inr ⟨rfl, rfl, rfl⟩)) rfl rfl ?_
   have go : ∀ b', b' = ziu (ids.take (i + 1)) → (i + 1 ≤ ids.length ∧ b' = ziu (ids.take (i + 1))) ∧ ids.length - (i + 1) < ids.length - i := fun b' h => ⟨⟨hi2, h⟩, Nat.sub_lt_sub_left hi2 (Nat.lt_succ_self i)⟩
   cases b with
   | true =>
    conv => whnf
    refine zd6 (by omega) (by omega) ?_
    conv => whnf
    exact ⟨(i + 1, true), [], [0, 1], go _ (by rw [hnext]; rfl), zbW⟩
   | false =>
    conv => whnf
    refine vIf (fun h1 => ?_) fun h1 => ?_
    ·conv => whnf
     refine zd6 (by omega) (by omega) ?_
     conv => whnf
     exact ⟨(i + 1, true), [], [0, 1], go _ (by rw [hnext, h1]; rfl), zbW⟩
    ·conv => whnf
     refine vIf (fun h2 => ?_) fun h2 => ?_
     ·conv => whnf
      refine zd6 (by omega) (by omega) ?_
      conv => whnf
      exact ⟨(i + 1, true), [], [0, 1], go _ (by rw [hnext, h1, h2]; rfl), zbW⟩
     ·conv => whnf
      refine zd6 (by omega) (by omega) ?_
      conv => whnf
      exact ⟨(i + 1, false), [], [0, 1], go _ (by rw [hnext, h1, h2]; rfl), zbW⟩
  ·have hi5 : i = ids.length := by
    have : ¬ (i : Int) < ((ids.length : Nat) : Int) := of_decide_eq_false hc
    omega
   subst hi5
   rw [List.take_length] at hb
   have hbt : b = true := by
    rw [hb]
    obtain ⟨id, hm, h2⟩ := hbad
    unfold ziu
    refine List.any_eq_true.2 ⟨id, hm, ?_⟩
    unfold zq1 at h2
    simp
    omega
   subst hbt
   conv => whnf
   exact zaF rfl
theorem ziv {m : Nat → Unit} {OA : Option Addr} {oc : Nat} (hk32 : app.length = 32) (hkb : ∀ x ∈ app, x < 256) (hX : ∀ k ∈ X, k < w.heap.size) (hq : St (LiF zaS OA oc ids m) w X) (hG : St (zc7 gt 2) w X) : Calls Tryz.prog 4 #[.agg (ca [.key app]), .slice OA ids.length oc] w fun e w' => e = .returned (.bool true) ∧ Sep X [] w w' [] [] :=
 (ziP (q := (OA, oc)) hk32 hkb hX (zw3 hq) hG).mono fun e w' ⟨_, he, hS⟩ => ⟨he, hS⟩
end
end
end Go.Proofs.YtcmmpiaogfnmoaaGreatDoor
