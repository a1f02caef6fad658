/- A buffer that is written nothing. The library's buffer, laid at this program (written by the kit's own tool). Texts are written, one behind the other. Keys of keys, by computing. The document's wire, by computing. SHA-256 of the document, by computing: words, blocks. SHA-256 of the document, by computing: the sum. Sums with a key, of the document, by computing. The document's keys of keys (mac), by computing. The document's numbers modulo the prime, by computing: the prime's parts, which is less, folding. The document's sums, differences, products modulo the prime, by computing. The document's -/
import Derived.Test.YtcmmpiaogfnmoaaGreatDoorStateSecretsG
import Derived.Lib.Buffer
import Derived.Shelf.Bytes.WriteAny
import Derived.Shelf.Bytes.Bytes
set_option linter.unusedSimpArgs false
set_option linter.unusedVariables false
set_option maxRecDepth 200000
set_option maxHeartbeats 6000000
namespace Go.Proofs.YtcmmpiaogfnmoaaGreatDoor
section
open Go.RowKit
section
variable {P : Program} {o : Oper} {a : Act} {w ws : World} {Q : Exit → Act → World → Prop} {N d : Nat} {l : List (Nat × Value)} {v : Value} {S : Nat → Prop} {K : Act → World → Prop} {x y : Operand}
theorem zC6 {t : TypeId} {A : Option Addr} {n c : Nat} (ho : o.op = .call { callee := .builtin .cap, args := #[x], argTypes := #[t] }) (hx : ev l x = some (.slice A n c)) (ht : zw3 P t = true) : PK P S ws l o (.int .i64 c) := fun w' _ a N E => by
 obtain ⟨e, hu⟩ := zty ht
 unfold execOp; rw [ho]
 simp [resolve, invoke, builtin, E.ev hx, Builtin.cap_, run_underlying hu, Sem.run_bind, goInt]
theorem zwg {dT sT dn dc c : Nat} {A B : Option Addr} (E : Env a N l) (ho : o.op = .call { callee := .builtin .copy, args := #[x, y], argTypes := #[dT, sT] }) (hx : ev l x = some (.slice A dn dc)) (hy : ev l y = some (.slice B 0 c)) (hT : elK P dT = some 1) (h : K (a.put o.dst (.int .i64 0)) w) : o.wp P a w K Q := by
 obtain ⟨e, he, hs⟩ := zp4 hT
 have hr := run_copy_none (P := P) w dT sT o.type e A B dn dc 0 c he hs (Nat.zero_min _)
 unfold Oper.wp execOp
 simp only [ho, resolve, invoke, builtin, Sem.run_bind, Sem.run_pure, Result.andThen_ok, List.map_toArray, List.map_cons, List.map_nil, E.ev hx, E.ev hy, hr]
 exact h
end
theorem zos {b rc : Nat} {lr : Int} {RA : Option Addr} {k : List Nat} (hkl : k.length ≤ 140737488355328) (hrc : rc ≤ 9223372036854775807) {X : List Nat} {w0 : World} (hX : ∀ k ∈ X, k < w0.heap.size) (H0 : Sep X (zac [.blk b (ca [.one (.slice RA k.length rc), .one (.int .i64 0), .one (.int .i8 lr)]) 128, .row (.slice RA k.length rc) 5 1 k.length (k.map bv)]) w0 w0 [.blk b (ca [.one (.slice RA k.length rc), .one (.int .i64 0), .one (.int .i8 lr)]) 128, .row (.slice RA k.length rc) 5 1 k.length (k.map bv)] []) :
  Calls Tryz.prog 124 #[.pointer (some ⟨b, 0, none⟩), .int .i64 0] w0 fun e w' => e = .returned (.tuple #[.int .i64 k.length, .bool true]) ∧ Sep X (zac [.blk b (ca [.one (.slice RA k.length rc), .one (.int .i64 0), .one (.int .i8 lr)]) 128, .row (.slice RA k.length rc) 5 1 k.length (k.map bv)]) w0 w' [.blk b (ca [.one (.slice RA k.length rc), .one (.int .i64 0), .one (.int .i8 lr)]) 128, .row (.slice RA k.length rc) 5 1 k.length (k.map bv)] [] := by
 refine zes Tryz.ntmps124 Tryz.func124 rfl rfl fun a E => ?_; replace E : Env a _ [(0, _), (1, _)] := E
 have H := H0
 have hcap : k.length ≤ rc := ztB (H0.holds _ (by simp) : (Res.row (.slice RA k.length rc) 5 1 k.length (k.map bv)).holds w0)
 have hH := H0
 refine Vr ?_; refine Vv E pka fun a E => ?_; refine Vv E pka fun a E => ?_; refine Vn ?_; refine wp_seq_k fun K1 hK1 => ?_; refine Vr ?_; refine Vv E pkm fun a E => ?_; refine Vv E (zeY rfl rfl) fun a E => ?_; refine Vv E (zbm (off := 0) rfl rfl (by kernel_rfl)) fun a E => ?_; refine Vv E (pko H 0) fun a E => ?_; refine Vv E pkn fun a E => ?_; refine Vv E pka fun a E => ?_; refine Vn ?_; refine Vr ?_
 refine Vv E pkm fun a E => ?_; refine Vv E pkm fun a E => ?_; refine Vv E (zeY rfl rfl) fun a E => ?_; refine Vv E (zbm (off := 0) rfl rfl (by kernel_rfl)) fun a E => ?_; refine Vv E (pko H 0) fun a E => ?_; refine Vv E (zC6 rfl rfl (by kernel_rfl)) fun a E => ?_; refine Vv E pkm fun a E => ?_; refine Vv E (zoO rfl rfl rfl rfl (zw5 (by omega) (by omega))) fun a E => ?_; refine Vv E (zp2 (v := .bool true) rfl rfl rfl (congrArg (fun b => some (Value.bool b)) (decide_eq_true (by omega)))) fun a E => ?_; refine Vn ?_; refine zp9 E rfl ?_
 refine Vr ?_; refine Vv E pkm fun a E => ?_; refine Vv E pkm fun a E => ?_; refine Vv E (zeY rfl rfl) fun a E => ?_; refine Vv E (zbm (off := 0) rfl rfl (by kernel_rfl)) fun a E => ?_; refine Vv E (pko H 0) fun a E => ?_; refine Vv E pkm fun a E => ?_; refine Vv E pkm fun a E => ?_; refine Vv E (zoO rfl rfl rfl rfl (zw5 (by omega) (by omega))) fun a E => ?_; refine Vv E (zit (sz := 1) (hi := k.length) rfl (by kernel_rfl) rfl rfl (by omega) hcap) fun a E => ?_
 rw [sub_zero] at E
 refine Vv E (zeY rfl rfl) fun a E => ?_; refine Vv E (zbm (off := 0) rfl rfl (by kernel_rfl)) fun a E => ?_; refine Ws 0 (new := [.one _]) E H fun w H => ?_; replace H : Sep _ _ _ _ [_, _] _ := H; refine Vn ?_; refine Vr ?_; refine Vv E pkm fun a E => ?_; refine Vv E pka fun a E => ?_; refine Vv E pka fun a E => ?_; refine Vn ?_; refine wp_ret ?_
 repeat (first | refine zeU ?_ | refine zdV ?_)
 refine zAF rfl E (zw4 rfl) (zw4 rfl) ?_
 exact ⟨rfl, H⟩
theorem zot {b rc : Nat} {lr : Int} {RA : Option Addr} {k : List Nat} {A0 : Option Addr} {c0 : Nat} (hkl : k.length ≤ 140737488355328) (hrc : rc ≤ 9223372036854775807) {X : List Nat} {w0 : World} (hX : ∀ k ∈ X, k < w0.heap.size) (H0 : Sep X (zac [.blk b (ca [.one (.slice RA k.length rc), .one (.int .i64 0), .one (.int .i8 lr)]) 128, .row (.slice RA k.length rc) 5 1 k.length (k.map bv)]) w0 w0 [.blk b (ca [.one (.slice RA k.length rc), .one (.int .i64 0), .one (.int .i8 lr)]) 128, .row (.slice RA k.length rc) 5 1 k.length (k.map bv)] []) :
  Calls Tryz.prog 99 #[.pointer (some ⟨b, 0, none⟩), .slice A0 0 c0] w0 fun e w' => e = .returned (.tuple #[.int .i64 0, .nilIface]) ∧ Sep X (zac [.blk b (ca [.one (.slice RA k.length rc), .one (.int .i64 0), .one (.int .i8 lr)]) 128, .row (.slice RA k.length rc) 5 1 k.length (k.map bv)]) w0 w' [.blk b (ca [.one (.slice RA k.length rc), .one (.int .i64 0), .one (.int .i8 0)]) 128, .row (.slice RA k.length rc) 5 1 k.length (k.map bv)] [] := by
 refine zes Tryz.ntmps99 Tryz.func99 rfl rfl fun a E => ?_; replace E : Env a _ [(0, _), (1, _)] := E
 have H := H0
 have hcap : k.length ≤ rc := ztB (H0.holds _ (by simp) : (Res.row (.slice RA k.length rc) 5 1 k.length (k.map bv)).holds w0)
 have hH := H0
 refine Vr ?_; refine Vv E pka fun a E => ?_; refine Vv E pka fun a E => ?_; refine Vn ?_; refine Vr ?_; refine Vv E pkm fun a E => ?_; refine Vv E (zeY rfl rfl) fun a E => ?_; refine Vv E (zbm (off := 2) rfl rfl (by kernel_rfl)) fun a E => ?_; refine Ws 0 (new := [.one _]) E H fun w H => ?_; replace H : Sep _ _ _ _ [_, _] _ := H; refine Vn ?_; refine Vr ?_; refine Vv E pkm fun a E => ?_; refine Vv E pkm fun a E => ?_; refine Vv E pkn fun a E => ?_; refine Ve E ?_; refine Vc E ?_; refine (zos (b := b) (k := k) (rc := rc) (RA := RA) hkl hrc (Sep.giveA (L1 := [_, _]) (L := []) H).xlt (Sep.giveA (L1 := [_, _]) (L := []) H)).mono ?_; rintro e w ⟨rfl, H1⟩
 replace H := Sep.callA (L1 := [_, _]) (L := []) H H1
 clear H1; replace H : Sep _ _ _ _ [_, _] [] := H; refine Vp E fun a E => ?_; refine Vv E pkm fun a E => ?_; refine Vv E pkx fun a E => ?_; refine Vv E pkx fun a E => ?_; refine Vv E pka fun a E => ?_; refine Vv E pka fun a E => ?_; refine Vn ?_; refine wp_seq_k fun K3 hK3 => ?_; refine Vr ?_; refine Vv E pkm fun a E => ?_; refine Vv E (ztn rfl rfl) fun a E => ?_; refine Vn ?_; refine zqa E rfl ?_; refine wp_skip ?_; refine hK3 _ _ ?_; refine Vr ?_
 refine Vv E pkm fun a E => ?_; refine Vv E (zeY rfl rfl) fun a E => ?_; refine Vv E (zbm (off := 0) rfl rfl (by kernel_rfl)) fun a E => ?_; refine Vv E (pko H 0) fun a E => ?_; refine Vv E pkm fun a E => ?_; refine Vv E (ziu (sz := 1) (lo := k.length) rfl (by kernel_rfl) rfl rfl rfl (jV _)) fun a E => ?_; refine Vv E pkm fun a E => ?_; refine Ve E ?_; refine zwg E rfl rfl rfl (by kernel_rfl) ?_; refine Vp E fun a E => ?_; refine Vv E pka fun a E => ?_
 refine Vv E pka fun a E => ?_; refine Vn ?_; refine wp_ret ?_
 repeat (first | refine zeU ?_ | refine zdV ?_)
 refine zAF rfl E (zw4 rfl) (zw4 rfl) ?_
 exact ⟨rfl, H⟩
end
section
open Go.Shelf
def zpR : Go.Shelf.Ren := ⟨fun | 180 => 99 | 251 => 124 | 252 => 125 | 181 => 157 | 184 => 158 | 290 => 159 | 324 => 179 | n => n, fun | 130 => 160 | 37 => 72 | 3 => 3 | 75 => 130 | 0 => 0 | 93 => 128 | 91 => 126 | 131 => 114 | 4 => 4 | 20 => 20 | 5 => 5 | 80 => 237 | 9 => 9 | n => n, fun | 14 => 1 | n => n⟩
theorem zC7 : Go.Proofs.LaysM.n180 Tryz.prog zpR := {
 mixed := by kernel_rfl
 f180 := Tryz.func99.trans (congrArg some (by kernel_rfl))
 f181 := Tryz.func157.trans (congrArg some (by kernel_rfl))
 f184 := Tryz.func158.trans (congrArg some (by kernel_rfl))
 f251 := Tryz.func124.trans (congrArg some (by kernel_rfl))
 f252 := Tryz.func125.trans (congrArg some (by kernel_rfl))
 f290 := Tryz.func159.trans (congrArg some (by kernel_rfl))
 f324 := Tryz.func179.trans (congrArg some (by kernel_rfl))
 t0 := Tryz.underlying0
 a0 := Tryz.isAgg0
 z0 := Tryz.sizeOf0
 v0 := Tryz.zeroValue0
 t3 := Tryz.underlying3
 a3 := Tryz.isAgg3
 z3 := Tryz.sizeOf3
 v3 := Tryz.zeroValue3
 t4 := Tryz.underlying4
 a4 := Tryz.isAgg4
 z4 := Tryz.sizeOf4
 v4 := Tryz.zeroValue4
 t20 := Tryz.underlying20
 a20 := Tryz.isAgg20
 z20 := Tryz.sizeOf20
 v20 := Tryz.zeroValue20
 t37 := Tryz.underlying72
 a37 := Tryz.isAgg72
 z37 := Tryz.sizeOf72
 v37 := Tryz.zeroValue72
 t75 := Tryz.underlying130
 a75 := Tryz.isAgg130
 z75 := Tryz.sizeOf130
 v75 := Tryz.zeroValue130
 t91 := Tryz.underlying126
 a91 := Tryz.isAgg126
 z91 := Tryz.sizeOf126
 v91 := Tryz.zeroValue126
 t93 := Tryz.underlying128
 a93 := Tryz.isAgg128
 z93 := Tryz.sizeOf128
 v93 := Tryz.zeroValue128
 t130 := Tryz.underlying160
 a130 := Tryz.isAgg160
 z130 := Tryz.sizeOf160
 v130 := Tryz.zeroValue160
 t131 := Tryz.underlying114
 a131 := Tryz.isAgg114
 z131 := Tryz.sizeOf114
 v131 := Tryz.zeroValue114
 g14 := by kernel_rfl
 t5 := Tryz.underlying5
 a5 := Tryz.isAgg5
 z5 := Tryz.sizeOf5
 v5 := Tryz.zeroValue5
 t9 := Tryz.underlying9
 a9 := Tryz.isAgg9
 z9 := Tryz.sizeOf9
 v9 := Tryz.zeroValue9
 t80 := Tryz.underlying237
 a80 := Tryz.isAgg237
 z80 := Tryz.sizeOf237
 v80 := Tryz.zeroValue237
 i0 := by kernel_rfl
 i3 := by kernel_rfl
 i4 := by kernel_rfl
 i5 := by kernel_rfl
 i9 := by kernel_rfl
 i20 := by kernel_rfl
 i37 := by kernel_rfl
 i75 := by kernel_rfl
 i80 := by kernel_rfl
 i91 := by kernel_rfl
 i93 := by kernel_rfl
 i130 := by kernel_rfl
 i131 := by kernel_rfl
 m14 := by kernel_rfl }
def zpS : Go.Shelf.Ren := ⟨fun | 183 => 100 | n => n, fun | 130 => 160 | 37 => 72 | 0 => 0 | 93 => 128 | 3 => 3 | 5 => 5 | 91 => 126 | n => n, fun | n => n⟩
theorem zC8 : Go.Proofs.LaysM.n183 Tryz.prog zpS := {
 mixed := by kernel_rfl
 f183 := Tryz.func100.trans (congrArg some (by kernel_rfl))
 t0 := Tryz.underlying0
 a0 := Tryz.isAgg0
 z0 := Tryz.sizeOf0
 v0 := Tryz.zeroValue0
 t3 := Tryz.underlying3
 a3 := Tryz.isAgg3
 z3 := Tryz.sizeOf3
 v3 := Tryz.zeroValue3
 t37 := Tryz.underlying72
 a37 := Tryz.isAgg72
 z37 := Tryz.sizeOf72
 v37 := Tryz.zeroValue72
 t93 := Tryz.underlying128
 a93 := Tryz.isAgg128
 z93 := Tryz.sizeOf128
 v93 := Tryz.zeroValue128
 t130 := Tryz.underlying160
 a130 := Tryz.isAgg160
 z130 := Tryz.sizeOf160
 v130 := Tryz.zeroValue160
 t5 := Tryz.underlying5
 a5 := Tryz.isAgg5
 z5 := Tryz.sizeOf5
 v5 := Tryz.zeroValue5
 t91 := Tryz.underlying126
 a91 := Tryz.isAgg126
 z91 := Tryz.sizeOf126
 v91 := Tryz.zeroValue126
 i0 := by kernel_rfl
 i3 := by kernel_rfl
 i5 := by kernel_rfl
 i37 := by kernel_rfl
 i91 := by kernel_rfl
 i93 := by kernel_rfl
 i130 := by kernel_rfl }
end
section
open Go.RowKit
def zsY (B b : Nat) (k : List Nat) (w : World) : Prop := Lib.IsBuffer 128 5 B b (k.map bv) w
def zcC (ts : List (List Nat)) : List Nat := ts.flatMap fun t => beL 2 t.length ++ t
def zmD (m : List Nat) (ts : List (List Nat)) : List Nat × Int := if ∀ t ∈ ts, t.length ≤ 65535 then (m ++ zcC ts, 0) else ([], 4)
theorem zdH (n : Nat) : (beL 2 n).length = 2 := by simp [beL, beK]
theorem zou {ts : List (List Nat)} {i : Nat} {t : List Nat} (h : ts[i]? = some t) : zcC (ts.take (i + 1)) = zcC (ts.take i) ++ beL 2 t.length ++ t := by
 unfold zcC
 rw [List.take_add_one, h, List.flatMap_append]
 simp
theorem zmE (ts : List (List Nat)) (h : ∀ t ∈ ts, t.length ≤ 65535) : (zcC ts).length ≤ 65537 * ts.length := by
 induction ts with
 | nil => simp [zcC]
 | cons t ts ih =>
  have h1 := ih fun x hx => h x (List.mem_cons_of_mem _ hx)
  have h2 := h t (List.mem_cons_self ..)
  have h3 : (beL 2 t.length).length = 2 := by simp [beL, beK]
  have e : zcC (t :: ts) = beL 2 t.length ++ t ++ zcC ts := by simp [zcC]
  rw [e, jQ, jQ, h3, List.length_cons]
  omega
theorem zov (ts : List (List Nat)) (h : ∀ t ∈ ts, ∀ x ∈ t, x < 256) : ∀ x ∈ zcC ts, x < 256 := fun x hx => by
 obtain ⟨t, ht, hx⟩ := List.mem_flatMap.1 hx
 rcases List.mem_append.1 hx with h1 | h1
 ·exact zqY _ _ x h1
 ·exact h t ht x h1
section
variable {X : List Nat} {w0 w w' : World} {L : List Res} {R : List (World → Prop)} {B b c : Nat} {k m : List Nat} {A : Option Addr} {Y : List Nat}
theorem zFm (h : zsY B b k w) (hX : ∀ i ∈ X, i < B) : St (zsY B b k) w X := fun w2 hk => by
 obtain ⟨hB, v, lr, hb, hrow, hne⟩ := h
 refine ⟨hB, v, lr, (hk b (jM hb) fun hm => by have := hX b hm; omega).trans hb, ⟨hrow.1, ?_⟩, hne⟩
 rcases hrow.2 with h2 | ⟨g, cap, cur, rfl, h3, hh, h4⟩
 ·exact .inl h2
 ·exact .inr ⟨g, cap, cur, rfl, h3, (hk g (jM hh) fun hm => by have := hX g hm; omega).trans hh, h4⟩
theorem zwh (hX : ∀ i ∈ X, i < w0.heap.size) (hb : Below w0.heap.size w0 w) (h : zsY w0.heap.size b k w) (hf : ∀ r ∈ R, St r w0 X) : Sep X [] w0 w [] (zsY w0.heap.size b k :: R) :=
 ⟨Frm.of_below hb, hX, fun _ h => (by cases h), List.nodup_nil, fun _ h => (by cases h), fun r hr => by
  rw [zac, List.append_nil]
  rcases List.mem_cons.1 hr with rfl | hr
  ·exact zFm h hX
  ·exact (hf r hr).step hb.size (fun i hi _ => hb.block i hi) fun i hi => .inl hi⟩
theorem zsZ (H : Sep X [] w0 w (.blk b (ca [.one (.slice none 0 0), .one (.int .i64 0), .one (.int .i8 0)]) 128 :: L) R) : Sep X [] w0 w L (zsY w0.heap.size b [] :: R) := by
 have hm : w0.heap.size ≤ b := by
  rcases H.mine b (by simp [zac, Res.keys]) with h | h
  ·cases h
  ·exact h
 have hf := H.freezeX (Sep.new_x H)
 refine hf.pop.know ((hf.facts _ (List.mem_cons_self ..)).imp fun w2 h => ⟨hm, .slice none 0 0, 0, h, World.ownsRow_nil _ _ _ _, by simp [Value.ownBlock]⟩)
theorem zeP (H : Sep X [] w0 w [] (zsY w0.heap.size b k :: R)) (hf : ∀ r ∈ R, St r w0 X) (hm : TxF A c m w) (hne : m ≠ [] → ∀ ad, A = some ad → ad.block ≠ b) (hl : k.length + m.length ≤ 140737488355328) :
  Calls Tryz.prog 99 #[.pointer (some ⟨b, 0, none⟩), .slice A m.length c] w fun e w' => ∃ z, e = .returned z ∧ Sep X [] w0 w' [] (zsY w0.heap.size b (k ++ m) :: R) := by
 have hI : zsY w0.heap.size b k w := (H.facts _ (List.mem_cons_self ..)).now
 have hB := H.frm.below
 by_cases h0 : m = []
 ·subst h0
  obtain ⟨hb, v, lr, hh, hrow, hne2⟩ := hI
  have hrow' := hrow
  rw [List.length_map] at hrow'
  obtain ⟨RA, rc, hv, hrc⟩ : ∃ RA rc, v = .slice RA k.length rc ∧ rc ≤ 9223372036854775807 := by
   rcases hrow'.2 with ⟨h1, h2⟩ | ⟨g, cap, cur, h1, h3, _, _, h5, _⟩
   ·exact ⟨none, 0, by rw [h1, h2], by omega⟩
   ·exact ⟨_, _, h1, by unfold maxLen at h5; omega⟩
  subst hv
  have hap : ∀ g, (Value.slice RA k.length rc).ownBlock = some g → g ≠ b ∧ w0.heap.size ≤ g := fun g hg => ⟨fun e => hne2 (by rw [hg, e]), (World.ownsRow.lt hrow' g hg).1⟩
  have HS : Sep [] (zac [.blk b (ca [.one (.slice RA k.length rc), .one (.int .i64 0), .one (.int .i8 lr)]) 128, .row (.slice RA k.length rc) 5 1 k.length (k.map bv)]) w w [.blk b (ca [.one (.slice RA k.length rc), .one (.int .i64 0), .one (.int .i8 lr)]) 128, .row (.slice RA k.length rc) 5 1 k.length (k.map bv)] [] :=
   ⟨Frm.refl _ _, fun _ h => (by cases h), fun r hr => by
    simp only [List.mem_cons, List.not_mem_nil, or_false] at hr
    rcases hr with rfl | rfl
    ·exact hh
    ·refine ⟨hrow'.1, ?_⟩
     rcases hrow'.2 with h2 | ⟨g, cap, cur, h1, h3, h4⟩
     ·exact .inl h2
     ·exact .inr ⟨g, cap, cur, h1, Nat.zero_le _, h4⟩, by
    cases hq : (Value.slice RA k.length rc).ownBlock with
    | none => simp [zac, Res.keys, hq]
    | some g => have := (hap g hq).1; simp [zac, Res.keys, hq, Ne.symm this], fun k hk => .inl hk, fun _ h => (by cases h)⟩
  refine (zot (k := k) (by simpa using hl) hrc (fun _ h => by cases h) HS).mono ?_
  rintro e w2 ⟨rfl, H2⟩
  refine ⟨_, rfl, ?_⟩
  rw [List.append_nil]
  have hlt := hB.size
  refine zwh H.xlt ⟨H2.frm.os.trans hB.os, H2.frm.tape.trans hB.tape, H2.frm.output.trans hB.output, jU hlt H2.frm.size, fun i hi => (H2.frm.block i (by omega) fun hm => ?_).trans (hB.block i hi)⟩ ⟨hb, .slice RA k.length rc, 0, H2.holds (.blk b (ca [.one (.slice RA k.length rc), .one (.int .i64 0), .one (.int .i8 0)]) 128) (by simp), ?_, hne2⟩ hf
  ·simp only [zac, Res.keys, List.mem_append, List.mem_singleton, Option.mem_toList, List.not_mem_nil, or_false] at hm
   rcases hm with h | h
   ·omega
   ·have := (hap i h).2; omega
  ·have h2 : w2.ownsRow 0 5 1 (.slice RA k.length rc) k.length (k.map bv) := H2.holds (.row (.slice RA k.length rc) 5 1 k.length (k.map bv)) (by simp)
   rw [List.length_map]
   refine ⟨h2.1, ?_⟩
   rcases h2.2 with h3 | ⟨g, cap, cur, h1, h3, h4⟩
   ·exact .inl h3
   ·exact .inr ⟨g, cap, cur, h1, (hap g (by rw [h1]; rfl)).2, h4⟩
 ·have hpos : 0 < m.length := List.length_pos_iff.2 h0
  cases A with
  | none => have := (hm.nil rfl).1; omega
  | some ad =>
   have h := Any.Buffer_Write_any zC7 w0.heap.size b (k.map bv) (m.map bv) ad m.length c w hI hB.size (fun v hv => by obtain ⟨z, _, rfl⟩ := List.mem_map.1 hv; rfl) (by simp) (hne h0 ad rfl)
    (by have := zgc (m := m.length) hm ad rfl; rwa [List.take_length] at this) (fun v hv => by obtain ⟨z, _, rfl⟩ := List.mem_map.1 hv; rfl) (by simpa using hl)
   refine Calls.mono h ?_
   rintro e w2 ⟨rfl, h1, h2, -⟩
   refine ⟨_, rfl, zwh H.xlt (hB.trans h2) ?_ hf⟩
   unfold zsY
   rw [List.map_append]
   exact h1
theorem zow (H : Sep X [] w0 w [] (zsY w0.heap.size b k :: R)) (hf : ∀ r ∈ R, St r w0 X) (hl : k.length ≤ 140737488355328) (hk : ∀ x ∈ k, x < 256) :
  Calls Tryz.prog 100 #[.pointer (some ⟨b, 0, none⟩)] w fun e w' => ∃ A' c', e = .returned (.slice A' k.length c') ∧ Sep X [] w0 w' [] [TxF A' c' k] := by
 have hI : zsY w0.heap.size b k w := (H.facts _ (List.mem_cons_self ..)).now
 have h := Any.Buffer_Bytes zC8 w0.heap.size b (k.map bv) w hI
 refine Calls.mono h ?_
 rintro e w2 ⟨v, rfl, h1, n, rfl⟩
 have h1' : (w.drewN n).ownsRow w0.heap.size 5 1 v k.length (k.map bv) := by have := h1; rwa [List.length_map] at this
 have hb : Below w0.heap.size w0 (w.drewN n) := H.frm.below.trans ⟨rfl, rfl, rfl, jV _, fun _ _ => rfl⟩
 obtain ⟨A', c', rfl, h2⟩ := zoV (X := X) (w0 := w0) (k := k) H.xlt h1' hb
 exact ⟨A', c', rfl, h2.rowTx (Sep.new_x h2) hl hk⟩
theorem zzr (hX : ∀ i ∈ X, i < w0.heap.size) {n : Nat} (hn : n < 18446744073709551616) :
  Calls Tryz.prog 68 #[.slice none 0 0, .int .i64 2, .int .u64 ((n : Nat) : Int)] w0 fun e w' => ∃ A' c', e = .returned (.slice A' (beL 2 n).length c') ∧ Sep X [] w0 w' [] [TxF A' c' (beL 2 n)] ∧ ∀ q, q < w0.heap.size → ∀ ad, A' = some ad → ad.block ≠ q := by
 refine (zu2 (.slice none 0 0) [] w0.heap.size 2 n (by omega) hn (by decide) w0 Own.nil_ (jV _)).mono ?_
 rintro e w2 ⟨⟨v, rfl, ho⟩, hb⟩
 rw [List.nil_append] at ho
 have hlt := ho.lt
 obtain ⟨A', c', rfl, h2⟩ := zoV (X := X) hX ho hb
 refine ⟨A', c', rfl, h2.rowTx (Sep.new_x h2) (by simp [beL, beK]) (zqY _ _), fun q hq ad hA e => ?_⟩
 subst hA
 have h3 := ho.2
 rcases h3 with ⟨h4, _⟩ | ⟨g, cap, cur, h4, h5, _⟩
 ·cases h4
 ·injection h4 with h4
  injection h4 with h4
  subst h4
  simp only at e
  omega
end
theorem zzs {A TA : Option Addr} {c0 tc : Nat} {m0 : List Nat} {ts : List (List Nat)} {tm : Nat → zay.μ} (hm0 : m0.length ≤ 100000000) (hts : ts.length ≤ 1000000) {X : List Nat} {w0 : World} (hX : ∀ k ∈ X, k < w0.heap.size) (hA : St (TxF A c0 m0) w0 X) (hL : St (LiF zay TA tc ts tm) w0 X) :
  Calls Tryz.prog 69 #[.slice A m0.length c0, .slice TA ts.length tc] w0 fun e w' => ∃ A' c', e = .returned (.tuple #[.slice A' (zmD m0 ts).1.length c', .int .i64 (zmD m0 ts).2]) ∧ Sep X [] w0 w' [] [TxF A' c' (zmD m0 ts).1] := by
 refine zes Tryz.ntmps69 Tryz.func69 rfl rfl fun a E => ?_; replace E : Env a _ [(0, _), (1, _)] := E
 have H : Sep X [] w0 w0 [] [(TxF A c0 m0), (LiF zay TA tc ts tm)] := Sep.start hX (jJ.2 ⟨hA, jJ.2 ⟨hL, fun _ h => by cases h⟩⟩)
 refine Vr ?_; refine Vv E pka fun a E => ?_; refine Vv E pka fun a E => ?_; refine Vn ?_; refine Vr ?_; refine Wa (z := [.one (.slice none 0 0), .one (.int .i64 0), .one (.int .i8 0)]) E H fun b6 w a H E => ?_
 replace H := zsZ H
 replace H : Sep _ _ _ _ [] [_, _, _] := H
 have hb6 : w0.heap.size ≤ b6 := (St.now (H.fact 0 rfl)).1
 refine Vn ?_; refine Vr ?_; refine Vv E pkm fun a E => ?_; refine Ve E ?_; refine Vc E ?_
 have HB := H.refacts (R' := [_, _, _]) (jJ.2 ⟨H.fact 0 rfl, jJ.2 ⟨H.fact 1 rfl, jJ.2 ⟨H.fact 2 rfl, jK _⟩⟩⟩)
 refine (zeP (k := []) HB (jJ.2 ⟨hA, jJ.2 ⟨hL, jK _⟩⟩) (St.now (H.fact 1 rfl)) (fun hne0 ad hA2 => by obtain ⟨z, hz⟩ := List.exists_mem_of_ne_nil _ hne0; obtain ⟨q, hq⟩ := List.mem_iff_getElem?.1 hz; have h1 := World.block_lt_of_cell? _ _ (hA.now.at_ ad hA2 q z hq); rw [zdR] at h1; omega) (by simp only [List.length_nil]; omega)).mono ?_; rintro e w ⟨z24, rfl, H1⟩
 replace H := H1
 clear H1; replace H : Sep _ _ _ _ [] [_, _, _] := H; refine Vp E fun a E => ?_; clear HB; refine Vn ?_; refine wp_seq_k fun K3 hK3 => ?_; refine Vr ?_; refine Vv E pkm fun a E => ?_; refine Vv E pkn fun a E => ?_; refine Vv E pkm fun a E => ?_; refine Vn ?_; refine wp_block ?_
 refine zAM (γ := Nat) [6, 11, 12] (fun i => [(13, .int .i64 (i : Int))]) (fun i => []) (fun i => [zsY w0.heap.size b6 (m0 ++ zcC (ts.take i)), TxF A c0 m0, LiF zay TA tc ts tm]) (fun i => i ≤ ts.length ∧ ∀ t ∈ ts.take i, t.length ≤ 65535) (fun i => ts.length - i) (0) E (by show Sep _ _ _ _ [] [zsY _ _ (m0 ++ zcC (ts.take 0)), _, _]; rw [jI, show zcC [] = [] from rfl, List.append_nil]; exact H) (by repeat (first | exact trivial | refine ⟨rfl, ?_⟩)) (⟨Nat.zero_le _, fun t ht => by simp at ht⟩) ?_; clear E H; intro i a w E H hφ; replace E : Env a _ [(13, _), (6, _), (11, _), (12, _)] := E; replace H : Sep _ _ _ _ [] [_, _, _] := H
 obtain ⟨hφ, hsm⟩ := hφ
 refine Vr ?_; refine Vv E pki fun a E => ?_; refine Vn ?_; refine wp_seq_k fun K6 hK6 => ?_; refine zin (d := 14) E rfl ?_ ?_
 ·skip
  clear E; intro c14 E
  have hi : i < ts.length := by have := c14; simp only [jS] at this; omega
  have hx0 : ts[i]? = some ts[i] := jP hi
  obtain ⟨adi, hti⟩ := LiF.get hL hx0
  obtain ⟨_, hti⟩ := hti
  have hel : (m0 ++ zcC (ts.take i)).length = m0.length + (zcC (ts.take i)).length := jQ ..
  have hel2 := zmE (ts.take i) hsm
  rw [List.length_take] at hel2
  refine zp9 E rfl ?_; refine wp_skip ?_; refine hK6 _ _ ?_; refine wp_seq_k fun K7 hK7 => ?_; refine wp_block ?_; refine Vr ?_
  obtain ⟨ad15, hA15, hc15, hn15⟩ := LiF.get (A := TA) (T := zay) (i := i) (x := ts[i]) (by exact H.fact 2 rfl) hx0
  refine Vv E (zDP (sz := 1) hA15 rfl (by kernel_rfl) rfl rfl rfl (by omega)) fun a E => ?_
  replace H := (H.know hn15).know hc15
  clear hn15 hc15; replace H : Sep _ _ _ _ _ [_, _, _, _, _] := H; refine Vv E (ztv (H.fact 0 rfl) (fun _ _ _ => trivial) rfl rfl rfl (by kernel_rfl)) fun a E => ?_; refine Vv E pka fun a E => ?_; refine Vn ?_; refine wp_seq_k fun K9 hK9 => ?_; refine Vr ?_; refine Vv E pkm fun a E => ?_; refine Vv E pkn fun a E => ?_; refine Vv E pki fun a E => ?_; refine Vn ?_; refine zin (d := 19) E rfl ?_ ?_
  ·skip
   clear E; intro c19 E
   have hbig : ¬ ts[i].length ≤ 65535 := by have := c19; simp only [jS] at this; omega
   have htv : zmD m0 ts = ([], 4) := by unfold zmD; rw [if_neg (fun h => hbig (h _ (List.getElem_mem hi)))]
   refine zp9 E rfl ?_; refine Vr ?_; refine Vv E pka fun a E => ?_; refine Vv E pka fun a E => ?_; refine Vn ?_; refine wp_ret ?_
   repeat (first | refine zeU ?_ | refine zdV ?_)
   refine zAF rfl E (zw4 rfl) (zw4 rfl) ?_
   rw [htv]
   exact ⟨none, 0, rfl, (H.know zko).refacts (jJ.2 ⟨zko, jK _⟩)⟩
  ·skip
   clear E; intro c19 E
   have hle : ts[i].length ≤ 65535 := by have := c19; simp only [decide_eq_false_iff_not] at this; omega
   refine zqa E rfl ?_; refine wp_skip ?_; refine hK9 _ _ ?_; refine Vr ?_; refine Vv E pkm fun a E => ?_; refine Vv E pkn fun a E => ?_; refine Vv E (zxk rfl rfl (by kernel_rfl) (by kernel_rfl) (zw6 (by omega) (by omega))) fun a E => ?_; refine Ve E ?_; refine Vc E ?_
   have hbl : b6 < w.heap.size := Lib.IsBuffer.lt (St.now (H.fact 2 rfl))
   refine (zzr (n := ts[i].length) H.xk (by omega)).mono ?_; rintro e w ⟨A23, c23, rfl, H1, hq23⟩
   replace H := H.call H1
   clear H1; replace H : Sep _ _ _ _ [] [_, _, _, _, _, _] := H; refine Vp E fun a E => ?_
   have hne23 := hq23 _ hbl
   clear hq23 hbl; refine Ve E ?_; refine Vc E ?_
   have HB := H.refacts (R' := [_, _, _]) (jJ.2 ⟨H.fact 3 rfl, jJ.2 ⟨H.fact 4 rfl, jJ.2 ⟨H.fact 5 rfl, jK _⟩⟩⟩)
   refine (zeP (k := (m0 ++ zcC (ts.take i))) HB (jJ.2 ⟨hA, jJ.2 ⟨hL, jK _⟩⟩) (St.now (H.fact 0 rfl)) (fun _ => hne23) (by rw [hel, zdH]; omega)).mono ?_; rintro e w ⟨z24, rfl, H1⟩
   replace H := H1
   clear H1; replace H : Sep _ _ _ _ [] [_, _, _] := H; refine Vp E fun a E => ?_; clear HB; refine Vn ?_; refine zkn ?_; refine Vv E pkm fun a E => ?_; refine Ve E ?_; refine Vc E ?_
   have HB := H.refacts (R' := [_, _, _]) (jJ.2 ⟨H.fact 0 rfl, jJ.2 ⟨H.fact 1 rfl, jJ.2 ⟨H.fact 2 rfl, jK _⟩⟩⟩)
   refine (zeP (k := ((m0 ++ zcC (ts.take i)) ++ beL 2 ts[i].length)) HB (jJ.2 ⟨hA, jJ.2 ⟨hL, jK _⟩⟩) (St.now (hti.2.step H.frm.size (fun q hq _ => H.frm.block q hq (by simp)) (fun q hq => .inl hq))) (fun hne0 ad hA2 => by obtain ⟨z, hz⟩ := List.exists_mem_of_ne_nil _ hne0; obtain ⟨q, hq⟩ := List.mem_iff_getElem?.1 hz; have h1 := World.block_lt_of_cell? _ _ (hti.2.now.at_ ad hA2 q z hq); rw [zdR] at h1; omega) (by rw [jQ, hel, zdH]; omega)).mono ?_; rintro e w ⟨z24, rfl, H1⟩
   replace H := H1
   clear H1; replace H : Sep _ _ _ _ [] [_, _, _] := H; refine Vp E fun a E => ?_; clear HB; refine hK7 _ _ ?_; refine zkn ?_; refine Vv E (zoO rfl rfl rfl rfl (zw5 (by omega) (by omega))) fun a E => ?_; refine Vv E pkm fun a E => ?_
   rw [show (m0 ++ zcC (ts.take i)) ++ beL 2 ts[i].length ++ ts[i] = m0 ++ zcC (ts.take (i + 1)) from by rw [zou hx0]; simp only [List.append_assoc]] at H
   refine zxs ?_
   exact ⟨i + 1, ⟨E.to (by repeat (first | exact trivial | refine ⟨rfl, ?_⟩)), H, ⟨by omega, fun t ht => by rw [List.take_add_one, hx0] at ht; rcases List.mem_append.1 ht with h1 | h1; exact hsm t h1; simp only [Option.toList_some, List.mem_singleton] at h1; subst h1; exact hle⟩⟩, by omega⟩
 ·skip
  clear E; intro c14 E
  obtain rfl : i = ts.length := by have := c14; simp only [decide_eq_false_iff_not] at this; omega
  rw [List.take_length] at H hsm
  have hall := hsm
  have htv : zmD m0 ts = (m0 ++ zcC ts, 0) := by unfold zmD; rw [if_pos hall]
  have hbyte : ∀ x ∈ m0 ++ zcC ts, x < 256 := fun x hx => by
   rcases List.mem_append.1 hx with h1 | h1
   ·exact hA.now.byt x h1
   ·exact zov ts (fun t ht => by
     obtain ⟨q, hq⟩ := List.mem_iff_getElem?.1 ht
     obtain ⟨_, _, _, h3⟩ := LiF.get hL hq
     exact (St.now h3 : TxF _ _ _ _).byt) x h1
  refine zqa E rfl ?_; refine wp_exit ?_
  repeat (first | refine ztw ?_ | refine ztx ?_ | refine zse (by decide) ?_)
  refine hK3 _ _ ?_; refine Vr ?_; refine Ve E ?_; refine Vc E ?_; refine (zow (k := m0 ++ zcC ts) H (jJ.2 ⟨hA, jJ.2 ⟨hL, jK _⟩⟩) (by rw [jQ]; have := zmE ts hall; omega) hbyte).mono ?_; rintro e w ⟨A28, c28, rfl, H1⟩
  replace H := H1
  clear H1; replace H : Sep _ _ _ _ [] [_] := H; refine Vp E fun a E => ?_; refine Vv E pka fun a E => ?_; refine Vv E pka fun a E => ?_; refine Vn ?_; refine wp_ret ?_
  repeat (first | refine zeU ?_ | refine zdV ?_)
  refine zAF rfl E (zw4 rfl) (zw4 rfl) ?_
  rw [htv]
  exact ⟨A28, c28, rfl, H⟩
end
section
open Go.RowKit
def okT (ts : List (List Nat)) : Prop := ∀ t ∈ ts, t.length ≤ 65535
theorem zzt {m : List Nat} {ts : List (List Nat)} (h : okT ts) : zmD m ts = (m ++ zcC ts, 0) := by unfold zmD; exact if_pos h
def zmO : List Nat := [99, 111, 116, 101, 114, 105, 101]
def zer (gt : Nat → Nat) (k lab : List Nat) (ts : List (List Nat)) : List Nat := zsw gt k (zcC (zmO :: lab :: ts)) 32
def zj8 (ts : List (List Nat)) : Prop := ts.length ≤ 100 ∧ ∀ t ∈ ts, t.length ≤ 1000
theorem zci : zj8 [] := ⟨by show 0 ≤ 100; decide, fun t h => by cases h⟩
theorem zox {ts : List (List Nat)} (h : zj8 ts) : okT ts := fun t ht => by have := h.2 t ht; omega
theorem zhg : ∀ (ts : List (List Nat)), (∀ t ∈ ts, t.length ≤ 1000) → (zcC ts).length ≤ 1002 * ts.length
 | [], _ => jV _
 | t :: ts, h => by
  have h1 := zhg ts fun t ht => h t (List.mem_cons_of_mem _ ht)
  have h2 := h t (List.mem_cons_self ..)
  show ((beL 2 t.length ++ t) ++ zcC ts).length ≤ _
  rw [jQ, jQ, zdH, List.length_cons]
  omega
theorem zr3 (a b : List Nat) (ts : List (List Nat)) : zcC [a, b] ++ zcC ts = zcC (a :: b :: ts) := by
 unfold zcC
 rw [← List.flatMap_append]
 rfl
theorem zfe (gt : Nat → Nat) (k lab : List Nat) (ts : List (List Nat)) : (zer gt k lab ts).length = 32 := ze7 _ _ _ _
theorem zcR (gt : Nat → Nat) (k lab : List Nat) (ts : List (List Nat)) : ∀ x ∈ zer gt k lab ts, x < 256 := zuQ _ _ _ _
theorem zwi {lab : List Nat} (h : lab.length ≤ 100) : okT [zmO, lab] := fun t ht => by
 simp only [List.mem_cons, List.not_mem_nil, or_false] at ht
 rcases ht with rfl | rfl
 ·show 7 ≤ 65535; decide
 ·omega
section
variable {X : List Nat} {w : World} {gt : Nat → Nat} {ts : List (List Nat)} {q q2 : Qd}
theorem zpT {m0 : List Nat} (hok : okT ts) (hm0 : m0.length ≤ 100000000) (hts : ts.length ≤ 1000000) (hX : ∀ k ∈ X, k < w.heap.size) (hA : St (TxQ m0 q) w X) (hL : St (SlQ zay ts q2) w X) : Ct Tryz.prog 69 [.slice q.1 m0.length q.2, .slice q2.1 ts.length q2.2] X w (.tup [.s (.p (.hd 0 (m0 ++ zcC ts).length)), .s (.p (.v (.int .i64 0)))]) [.gone] [.sl 0 (m0 ++ zcC ts).length (TxG (m0 ++ zcC ts))] := by
 obtain ⟨mm, hm⟩ := zo7 ziL hL
 refine (zzs hm0 hts hX (zeB hA) hm).mono ?_
 rintro e w' ⟨A', c', rfl, HS⟩
 rw [zzt hok] at HS ⊢
 refine ⟨hnQ [(A', c')], rfl, HS.refacts fun r hr => ?_⟩
 rcases List.mem_singleton.1 hr with rfl
 exact (HS.facts _ (List.mem_cons_self ..)).imp fun w2 hw => ⟨fun e => (hw.nil e).1, hw⟩
theorem zgM {s : ByteArray} {kk lab : List Nat} (hs : s.data.toList.map UInt8.toNat = lab) (hlab : lab.length ≤ 100) (hk32 : kk.length = 32) (hkb : ∀ x ∈ kk, x < 256) (hts : zj8 ts) (hX : ∀ k ∈ X, k < w.heap.size) (hL : St (SlQ zay ts q) w X) (hG : St (zbH gt 2) w X) : Ct Tryz.prog 41 [.agg (ca [.key kk]), .string s, .slice q.1 ts.length q.2] X w (.tup [.agg [.key (zer gt kk lab ts)], .s (.p (.v (.int .i64 0)))]) [] [] := by
 have hst := hts.1
 have hsl := zhg ts hts.2
 have hs2 : (zcC [zmO, lab]).length = 11 + lab.length := by
  show ((beL 2 zmO.length ++ zmO) ++ ((beL 2 lab.length ++ lab) ++ [])).length = _
  rw [jQ, jQ, jQ, jQ, zdH, zdH]
  show 2 + 7 + (2 + lab.length + 0) = _
  omega
 have hln : (zcC [zmO, lab] ++ zcC ts).length ≤ 1048576 := by rw [jQ]; omega
 refine vFn (k0 := 1) (rs := [.cell 6 23, .tmp 7]) (svs := [.a (.agg [.key kk]), zgW (.string s), .a (.s (.p (.hd 0 ts.length)))]) (R0 := [.sl 0 ts.length (SlF zay ts), .c (zbH gt 2)]) (hnQ [q]) Tryz.ntmps41 Tryz.func41 rfl rfl rfl rfl rfl zan (by kernel_rfl) hX (fun r hr => by
  rcases List.mem_cons.1 hr with rfl | hr
  ·exact hL
  ·rcases List.mem_singleton.1 hr with rfl; exact hG) ?_
 conv => whnf
 refine zaH (ze4 (i := 3) (n := 7) (e := 5) rfl rfl rfl (by kernel_rfl) (by kernel_rfl)) ?_
 conv => whnf
 refine zbO (zqV (e := 5) lab rfl rfl (by kernel_rfl) (by kernel_rfl) (by kernel_rfl) hs (by omega)) rfl rfl ?_
 conv => whnf
 obtain ⟨t1, ht1⟩ : ∃ t1, t1 = [] ++ zcC [zmO, lab] := ⟨_, rfl⟩
 have ht1e : t1 = zcC [zmO, lab] := by rw [ht1, List.nil_append]
 refine zaT (zba [5] rfl rfl (zaE (sv := .tup [.s (.p (.hd 6 t1.length)), .s (.p (.v (.int .i64 0)))]) (rs := [.gone]) (Rs := [.sl 6 t1.length (TxG t1)]) (zab (sv := .tup [.s (.p (.hd 0 t1.length)), .s (.p (.v (.int .i64 0)))]) (rs := [.gone]) (Rs := [.sl 0 t1.length (TxG t1)]) rfl rfl rfl (by kernel_rfl) rfl fun h X w H => ?_) rfl rfl)) ?_
 ·have h5 := H.fact 0 rfl
  have h3 := H.fact 2 rfl
  have := zpT (m0 := []) (ts := [zmO, lab]) (q := (none, 0)) (q2 := (some ⟨h.b 5, 0, none⟩, 2)) (zwi hlab) (by simp) (by simp) H.xk zkL (zcM (ql := [(some ⟨h.b 3, 0, none⟩, 7), h.r 4]) rfl (by simp) h5 fun t x hx => by
   match t with
   | 0 => obtain rfl := Option.some.inj hx; exact zfp h3 rfl (jV _) (by decide) (by decide)
   | 1 => obtain rfl := Option.some.inj hx; exact zeB (H.fact 1 rfl)
   | t + 2 => simp at hx)
  rw [← ht1] at this
  exact this
 conv => whnf
 refine .inl ?_
 conv => whnf
 obtain ⟨t2, ht2⟩ : ∃ t2, t2 = t1 ++ zcC ts := ⟨_, rfl⟩
 refine zae (sv := .tup [.s (.p (.hd 0 t2.length)), .s (.p (.v (.int .i64 0)))]) (rs := [.gone]) (Rs := [.sl 0 t2.length (TxG t2)]) rfl rfl rfl (by kernel_rfl) (fun h X w H => by
  have := zpT (m0 := t1) (ts := ts) (q := h.r 6) (q2 := h.r 0) (zox hts) (by rw [ht1e]; omega) (by omega) H.xk (H.fact 0 rfl) (H.fact 4 rfl)
  rw [← ht2] at this
  exact this) rfl rfl rfl ?_
 conv => whnf
 refine zae (sv := .tup [.s (.p (.hd 0 32)), .s (.p (.v (.int .i64 0)))]) (rs := [.gone]) rfl rfl rfl (by kernel_rfl) (fun h X w H => zuS (n := 32) hk32 hkb (by decide) (by rw [ht2, ht1e]; exact hln) H.xk (H.fact 0 rfl) (H.fact 6 rfl)) rfl rfl rfl ?_
 conv => whnf
 refine zb4 (zBh 0 rfl (by rw [ze7]; decide) rfl (by kernel_rfl) rfl (by decide)) rfl rfl ?_
 conv => whnf
 refine zb4 (zBi 0 rfl (by rw [ze7]; decide) rfl rfl (by kernel_rfl)) rfl rfl ?_
 conv => whnf
 refine zav ?_
 rw [ht2, ht1e, zr3]
 rfl
end
end
section
open Go.RowKit
section
variable {X : List Nat} {w : World}
theorem zr4 (hX : ∀ k ∈ X, k < w.heap.size) (xs : List Nat) (q : Qd) (hq : St (SlQ ByT xs q) w X) (hl : xs.length * 1 ≤ 140737488355328) : Ct Tryz.prog 117 [.slice q.1 xs.length q.2] X w (.a (.s (.p (.hd 0 xs.length)))) [zbA ByT xs 5] [.q 0 (zc3 ByT xs)] := by
 have hbig := SlQ.big hq
 refine vFn (k0 := 1) (rs := [.tmp 2]) (svs := [.a (.s (.p (.hd 0 xs.length)))]) (R0 := [.sl 0 xs.length (SlF ByT xs)]) (hnQ [q]) Tryz.ntmps117 Tryz.func117 rfl rfl rfl rfl rfl zan (by kernel_rfl) hX (fun r hr => by
  rcases List.mem_singleton.1 hr with rfl; exact hq) ?_
 conv => whnf
 refine zpa 2 (zBj (T := ByT) (e := 5) (ys := xs) (r := 0) (by_ := 1) zzY rfl rfl rfl rfl ⟨by kernel_rfl, by kernel_rfl⟩ (by simpa using hbig) hl rfl rfl rfl) ?_
 conv => whnf
 exact zaZ [(0, 2)] [0] (.inl rfl) ⟨.inl rfl, trivial⟩ rfl ⟨.inl rfl, trivial⟩
theorem zmF {Y : List Nat} {ps : List (List Nat)} {q : Qd} (hq : St (SlQ zay ps q) w Y) : ∀ p ∈ ps, ∀ x ∈ p, x < 256 := fun p hpm => by
 obtain ⟨mm, hm⟩ := zo7 ziL hq
 obtain ⟨i, hi⟩ := List.mem_iff_getElem?.1 hpm
 obtain ⟨ad, _, _, h2⟩ := LiF.get hm hi
 exact h2.now.byt
theorem zwj {x c : Nat} {j : Int} {A : Int → Prop} (hc : j = (c : Int)) (h0 : c ≠ 0) (hx : x < 18446744073709551616) (h : A ((x / c : Nat) : Int)) : j ≠ 0 ∧ ∃ z, IntKind.u64.wrap ((x : Int).tdiv j) = z ∧ A z := ⟨by omega, _, by
 have : x / c ≤ x := Nat.div_le_self _ _
 rw [hc, ← Int.ofNat_tdiv]
 generalize x / c = y at this ⊢
 exact zw6 (by omega) (by omega), h⟩
theorem zjh (W n : Nat) (hW : W ≤ 8) (hn : n < 18446744073709551616) (hX : ∀ k ∈ X, k < w.heap.size) : Ct Tryz.prog 62 [.int .i64 W, .int .u64 n] X w (.a (.s (.p (.hd 0 W)))) [.gone] [.sl 0 W (TxG (beL W n))] := by
 refine vFn (k0 := 0) (rs := [.tmp 4]) (svs := [zaD .i64 W, zaD .u64 n]) (R0 := []) (hnQ []) Tryz.ntmps62 Tryz.func62 rfl rfl rfl rfl rfl zan (by kernel_rfl) hX (fun r hr => by cases hr) ?_
 conv => whnf
 refine ⟨Nat, fun k l m R i => ⟨1, (1, zaD .u64 ((n / 2 ^ (8 * i) : Nat) : Int)) :: (7, zaD .i64 i) :: (5, .a (.s (.p (.hd 0 i)))) :: za2 [0, 4, 6] l, [], [.sl 0 i (TxG (beL i n))]⟩, fun i => i ≤ W, fun i => W - i, ⟨0, [], [0], Nat.zero_le _, ?_⟩, fun i hi => ?_⟩
 ·have := zyk n
  simp only [Nat.mul_zero, Nat.pow_zero, Nat.div_one, this]
  exact za3 (hR := ⟨.inr (zux rfl), trivial⟩)
 have hbl := zdL i n
 have hdl : n / 2 ^ (8 * i) ≤ n := Nat.div_le_self _ _
 conv => whnf
 refine vIf (fun hc => ?_) fun hc => ?_
 ·have hi2 : i < W := by
   have : (i : Int) < (W : Int) := of_decide_eq_true hc
   omega
  conv => whnf
  refine ziM (c := 256) rfl (by decide) ?_
  conv => whnf
  refine zb8 ?_
  conv => whnf
  refine zaT (zjS 2 (zx5 (xs := [n / 2 ^ (8 * i) % 256 % 256]) (ys := beL i n) (r := 0) (e := 5) rfl (fun _ => rfl) rfl hbl.symm rfl rfl rfl rfl ⟨by kernel_rfl, by kernel_rfl⟩ (by rw [hbl]; simp; omega) rfl rfl) rfl (by rw [jQ, hbl]; simp; omega) ?_) ?_
  ·intro x hx
   rcases List.mem_cons.1 hx with rfl | hx
   ·omega
   ·exact zqY _ _ x hx
  conv => whnf
  refine zwj (c := 256) rfl (by decide) (by omega) ?_
  conv => whnf
  refine zc2 (by omega) (by omega) ?_
  conv => whnf
  have e1 : n / 2 ^ (8 * i) / 256 = n / 2 ^ (8 * (i + 1)) := by rw [Nat.div_div_eq_div_mul, show 8 * (i + 1) = 8 * i + 8 by omega, Nat.pow_add]
  have e2 : [n / 2 ^ (8 * i) % 256 % 256] ++ beL i n = beL (i + 1) n := by rw [Nat.mod_mod, zyj]; rfl
  rw [e1, e2, zdL (i + 1)]
  exact ⟨i + 1, [(0, 2)], [0], ⟨hi2, Nat.sub_lt_sub_left hi2 (Nat.lt_succ_self i)⟩, za3⟩
 have hi8 : i = W := by
   have : ¬ (i : Int) < (W : Int) := of_decide_eq_false hc
   omega
 subst hi8
 conv => whnf
 exact zaZ [(0, 0)] [0] (.inl rfl) trivial rfl ⟨.inl rfl, trivial⟩
theorem zzu {m0 : List Nat} {ts : List (List Nat)} {q q2 : Qd} (hok : okT ts) (hm0 : m0.length ≤ 100000000) (hts : ts.length ≤ 1000000) (hX : ∀ k ∈ X, k < w.heap.size) (hA : St (TxQ m0 q) w X) (hL : St (SlQ zay ts q2) w X) : Ct Tryz.prog 92 [.slice q.1 m0.length q.2, .slice q2.1 ts.length q2.2] X w (.tup [.s (.p (.hd 0 (m0 ++ zcC ts).length)), .s (.p (.v (.int .i64 0)))]) [.gone] [.sl 0 (m0 ++ zcC ts).length (TxG (m0 ++ zcC ts))] := by
 refine vFn (k0 := 2) (rs := [.tmp 4, .tmp 5]) (svs := [.a (.s (.p (.hd 0 m0.length))), .a (.s (.p (.hd 1 ts.length)))]) (R0 := [.sl 0 m0.length (TxG m0), .sl 1 ts.length (SlF zay ts)]) (hnQ [q, q2]) Tryz.ntmps92 Tryz.func92 rfl rfl rfl rfl rfl zan (by kernel_rfl) hX (fun r hr => by
  rcases List.mem_cons.1 hr with rfl | hr
  ·exact hA
  ·rcases List.mem_singleton.1 hr with rfl; exact hL) ?_
 conv => whnf
 refine zae rfl rfl rfl (by kernel_rfl) (fun h X w H => zr4 H.xk m0 _ (zqS (H.fact 0 rfl)) (by omega)) rfl rfl rfl ?_
 conv => whnf
 refine ⟨Nat × List Nat, fun k l m R g => ⟨3, (13, zaD .i64 g.1) :: (6, .a (.s (.p (.hd 2 g.2.length)))) :: za2 [1, 11, 12] l, [(2, zdK g.2 5)], [.sl 1 ts.length (SlF zay ts)]⟩, fun g => g.1 ≤ ts.length ∧ g.2 = m0 ++ zcC (ts.take g.1), fun g => ts.length - g.1, ⟨(0, m0), [], [2], ⟨Nat.zero_le _, (List.append_nil _).symm⟩, za3⟩, fun g hg => ?_⟩
 obtain ⟨i, out⟩ := g
 obtain ⟨hi, hout⟩ : i ≤ ts.length ∧ out = m0 ++ zcC (ts.take i) := hg
 have hol : out.length ≤ 100000000 + 65537 * i := by
  have h1 := zmE (ts.take i) fun t ht => hok t (List.mem_of_mem_take ht)
  rw [List.length_take, Nat.min_eq_left hi] at h1
  rw [hout, jQ]
  omega
 conv => whnf
 refine vIf (fun hc => ?_) fun hc => ?_
 ·have hi2 : i < ts.length := by
   have : (i : Int) < ((ts.length : Nat) : Int) := by simpa [Sl.len] using hc
   omega
  obtain ⟨x, hxi⟩ : ∃ x, ts[i]? = some x := ⟨_, jP hi2⟩
  have hxl := hok x (List.mem_of_getElem? hxi)
  have hE : out ++ beL 2 x.length ++ x = m0 ++ zcC (ts.take (i + 1)) := by rw [hout, zou hxi]; simp only [List.append_assoc]
  conv => whnf
  refine ⟨i, ⟨rfl, hi2, hi2⟩, ?_⟩
  conv => whnf
  refine zbO (zuu (x := x) 0 hxi rfl rfl rfl (by kernel_rfl)) rfl rfl ?_
  conv => whnf
  refine vF (decide_eq_false (by show ¬ (((x.length : Nat) : Int) > 65535); omega)) ?_
  conv => whnf
  refine zA9 (by omega) (by show ((x.length : Nat) : Int) ≤ _; omega) ?_
  conv => whnf
  refine zae rfl rfl rfl (by kernel_rfl) (fun h X w H => zjh 2 x.length (by decide) (by omega) H.xk) rfl rfl rfl ?_
  conv => whnf
  refine zaT (zg1 (xs := out) (ys := beL 2 x.length) (r := 0) (e := 5) rfl rfl (zdL _ _).symm rfl rfl rfl ⟨by kernel_rfl, by kernel_rfl⟩ (by rw [zdL]; omega) rfl rfl) ?_
  obtain ⟨o1, ho1⟩ : ∃ o1, o1 = out ++ beL 2 x.length := ⟨_, rfl⟩
  have ho1l : o1.length = out.length + 2 := by rw [ho1, jQ, zdL]
  rw [← ho1] at hE ⊢
  conv => whnf
  refine zaT (zg1 (xs := o1) (ys := x) (r := 1) (e := 5) rfl rfl rfl rfl rfl rfl ⟨by kernel_rfl, by kernel_rfl⟩ (by omega) rfl rfl) ?_
  conv => whnf
  refine zc2 (by omega) (by omega) ?_
  conv => whnf
  exact ⟨(i + 1, o1 ++ x), [(2, 6)], [2], ⟨⟨hi2, hE⟩, Nat.sub_lt_sub_left hi2 (Nat.lt_succ_self i)⟩, za3⟩
 have hi8 : i = ts.length := by
   have : ¬ (i : Int) < ((ts.length : Nat) : Int) := by simpa [Sl.len] using hc
   omega
 subst hi8
 rw [List.take_length] at hout
 conv => whnf
 rw [← hout]
 refine zkT (xs := out) 2 rfl (by omega) (fun x hx => ?_) rfl ?_
 ·rw [hout] at hx
  exact (List.mem_append.1 hx).elim (hA.now.2.byt x) (zov ts (zmF hL) x)
 exact zaZ [(0, 2)] [0] (.inl rfl) trivial rfl ⟨.inl rfl, trivial⟩
end
end
section
open Go.RowKit
section
variable {x y k : Nat} {j : Int} {A : Int → Prop}
theorem zmW (h : A ((zz4 x k : Nat) : Int)) : ∃ z, IntKind.u32.wrap ((x : Int) * ((k : Nat) : Int)) = z ∧ A z := ⟨_, by rw [← Int.natCast_mul, zfE]; rfl, h⟩
end
section
variable {X : List Nat} {w : World} {x n a b c : Nat}
theorem zzv {P : Program} {N : Nat} {l : LE} {m : MB} {R : List SF} {o : Oper} {t : TypeId} {xop : Operand} (ho : o.op = .unOp .xor t xop) (hx : evS l xop = some (wS x)) : zfk P N l m R o (wS (zuT x)) := fun h X a w E H => by
 have e : IntKind.u32.wrap (((BitVec.ofInt 32 ((4294967295 : Nat) : Int) ^^^ BitVec.ofInt 32 (x : Int)).toNat : Nat) : Int) = ((zuT x : Nat) : Int) := by
  rw [zDS]; unfold zuT zcy; rw [Nat.xor_comm]
 have h0 : Op.intBits BinOp.xor IntKind.u32 (if IntKind.u32.signed = true then -1 else IntKind.u32.max) ((x : Nat) : Int) = pure (u32 (zuT x)) := congrArg (fun z => (pure (Value.int .u32 z) : Sem Value)) e
 have h1 : ev (zcn h l) xop = some (u32 x) := zag (h := h) hx
 unfold execOp; rw [ho]; simp only [E.ev h1, Op.unary, h0, Sem.run_bind, Sem.run_pure, Result.andThen_ok]
 rfl
theorem zFn {P : Program} {N g t ty : Nat} {gt : Nat → Nat} {l : LE} {m : MB} {R : List SF} {o : Oper} {xop : Operand} (r : Nat) (hr : R[r]? = some (.c (zbH gt g))) (ht2 : t < 64) (ho : o.op = .load ty xop) (hx : evS l xop = some (ztG ((⟨g, 0, none⟩ : Addr).add (t * 1)))) (ht : tyK P ty = some (1, false)) : zfk P N l m R o (wS (gt t)) := fun h X a w E H => by
 have hG : zbH gt g w := (H.facts _ (zaQ.2 ⟨_, List.mem_of_getElem? hr, rfl⟩)).now
 refine za0 E ho (zag (h := h) hx) ht fun j u hu => ?_
 match j with
 | 0 =>
  obtain rfl := Option.some.inj hu
  have := hG t (u32 (gt t)) (by simp [cl, Chunk.cells, ht2])
  rw [Nat.mul_one, zax]
  exact this
 | j + 1 => simp [cl, Chunk.cells] at hu
theorem zfz (hX : ∀ k ∈ X, k < w.heap.size) (h1 : 1 ≤ n) (h2 : n < 32) : Ct Tryz.prog 156 [u32 x, .int .i64 n] X w (wS (zen x n)) [] [] := by
 refine vFn (k0 := 0) (rs := [.tmp 4]) (svs := [wS x, zaD .i64 n]) (R0 := []) (hnQ []) Tryz.ntmps156 Tryz.func156 rfl rfl rfl rfl rfl zan (by kernel_rfl) hX (fun r hr => by cases hr) ?_
 conv => whnf
 refine zaK 7 [] (by kernel_rfl) ?_
 conv => whnf
 refine zrW rfl ?_
 conv => whnf
 refine zbi (show (32 : Int) - (n : Int) = ((32 - n : Nat) : Int) by omega) (by omega) (by omega) ?_
 conv => whnf
 refine zlW rfl ?_
 conv => whnf
 refine zoW ?_
 conv => whnf
 exact zav rfl
def zGW (k : List Nat) (i : Nat) : RB := .blk [.row 64 fun j => u32 (zk2 k i j)] 199
theorem zwk {bk : List Nat} {q : Qd} (hl : bk.length = 64) (hX : ∀ k ∈ X, k < w.heap.size) (hq : St (TxQ bk q) w X) : Ct Tryz.prog 155 [.slice q.1 bk.length q.2] X w (.a (.agg [.row 64 fun j => u32 (zk2 bk 64 j)])) [] [] := by
 have hg : ∀ i, i < 64 → bk[i]? = some (bk.getD i 0) := fun i hi => zfJ 0 (by omega)
 refine vFn (k0 := 1) (rs := [.cell 2 199]) (svs := [.a (.s (.p (.hd 0 bk.length)))]) (R0 := [.sl 0 bk.length (TxG bk)]) (hnQ [q]) Tryz.ntmps155 Tryz.func155 rfl rfl rfl rfl rfl zan (by kernel_rfl) hX (fun r hr => by rcases List.mem_singleton.1 hr with rfl; exact hq) ?_
 conv => whnf
 refine ⟨Nat, fun k l m R i => ⟨k, (10, zaD .i64 i) :: za2 [0, 2, 3] l, (2, zGW bk i) :: m, R⟩, fun i => i ≤ 16, fun i => 16 - i, ⟨0, [], [0], Nat.zero_le _, za3⟩, fun i hi => ?_⟩
 conv => whnf
 refine vIf (fun hc => ?_) fun hc => ?_
 ·have hi2 : i < 16 := by
   have : (i : Int) < 16 := of_decide_eq_true hc
   omega
  conv => whnf
  refine zaK 34 [] (by kernel_rfl) ?_
  conv => whnf
  refine zbi (show (4 : Int) * (i : Int) = ((4 * i : Nat) : Int) by omega) (by omega) (by omega) ?_
  conv => whnf
  refine ⟨4 * i, ⟨rfl, by omega, by omega⟩, ?_⟩
  conv => whnf
  refine zcA (zeC 0 (hg (4 * i) (by omega)) rfl rfl rfl (by kernel_rfl)) ?_
  conv => whnf
  refine zz3 ?_
  conv => whnf
  refine zmW ?_
  conv => whnf
  refine zbi (show (4 : Int) * (i : Int) = ((4 * i : Nat) : Int) by omega) (by omega) (by omega) ?_
  conv => whnf
  refine zbi (show ((4 * i : Nat) : Int) + 1 = ((4 * i + 1 : Nat) : Int) by omega) (by omega) (by omega) ?_
  conv => whnf
  refine ⟨4 * i + 1, ⟨rfl, by omega, by omega⟩, ?_⟩
  conv => whnf
  refine zcA (zeC 0 (hg (4 * i + 1) (by omega)) rfl rfl rfl (by kernel_rfl)) ?_
  conv => whnf
  refine zz3 ?_
  conv => whnf
  refine zmW ?_
  conv => whnf
  refine zaW ?_
  conv => whnf
  refine zbi (show (4 : Int) * (i : Int) = ((4 * i : Nat) : Int) by omega) (by omega) (by omega) ?_
  conv => whnf
  refine zbi (show ((4 * i : Nat) : Int) + 2 = ((4 * i + 2 : Nat) : Int) by omega) (by omega) (by omega) ?_
  conv => whnf
  refine ⟨4 * i + 2, ⟨rfl, by omega, by omega⟩, ?_⟩
  conv => whnf
  refine zcA (zeC 0 (hg (4 * i + 2) (by omega)) rfl rfl rfl (by kernel_rfl)) ?_
  conv => whnf
  refine zz3 ?_
  conv => whnf
  refine zmW ?_
  conv => whnf
  refine zaW ?_
  conv => whnf
  refine zbi (show (4 : Int) * (i : Int) = ((4 * i : Nat) : Int) by omega) (by omega) (by omega) ?_
  conv => whnf
  refine zbi (show ((4 * i : Nat) : Int) + 3 = ((4 * i + 3 : Nat) : Int) by omega) (by omega) (by omega) ?_
  conv => whnf
  refine ⟨4 * i + 3, ⟨rfl, by omega, by omega⟩, ?_⟩
  conv => whnf
  refine zcA (zeC 0 (hg (4 * i + 3) (by omega)) rfl rfl rfl (by kernel_rfl)) ?_
  conv => whnf
  refine zz3 ?_
  conv => whnf
  refine zaW ?_
  conv => whnf
  refine ⟨i, ⟨rfl, by omega⟩, .inr ?_⟩
  conv => whnf
  refine zaH (zkQ (fun j => u32 (zk2 bk (i + 1) j)) rfl rfl rfl rfl rfl rfl (by omega) (by rw [zBt bk hi2]; exact znJ bk i)) ?_
  conv => whnf
  refine zc2 (by omega) (by omega) ?_
  conv => whnf
  exact ⟨i + 1, [], [0], ⟨hi2, Nat.sub_lt_sub_left hi2 (Nat.lt_succ_self i)⟩, za3⟩
 have hi16 : i = 16 := by
   have : ¬ (i : Int) < 16 := of_decide_eq_false hc
   omega
 subst hi16
 conv => whnf
 refine ⟨Nat, fun k l m R i => ⟨k, (5, zaD .i64 i) :: za2 [2, 3] l, (2, zGW bk i) :: m, []⟩, fun i => 16 ≤ i ∧ i ≤ 64, fun i => 64 - i, ⟨16, [], [], ⟨jV _, by decide⟩, za3⟩, fun i hi => ?_⟩
 obtain ⟨h16, hi⟩ : 16 ≤ i ∧ i ≤ 64 := hi
 conv => whnf
 refine vIf (fun hc => ?_) fun hc => ?_
 ·have hi2 : i < 64 := by
   have : (i : Int) < 64 := of_decide_eq_true hc
   omega
  conv => whnf
  refine zbi (show (i : Int) - 15 = ((i - 15 : Nat) : Int) by omega) (by omega) (by omega) ?_
  conv => whnf
  refine ⟨i - 15, ⟨rfl, by omega⟩, .inr ?_⟩
  conv => whnf
  refine ⟨by omega, ?_⟩
  conv => whnf
  refine zbi (show (i : Int) - 2 = ((i - 2 : Nat) : Int) by omega) (by omega) (by omega) ?_
  conv => whnf
  refine ⟨i - 2, ⟨rfl, by omega⟩, .inr ?_⟩
  conv => whnf
  refine ⟨by omega, ?_⟩
  conv => whnf
  refine zae rfl rfl rfl (by kernel_rfl) (fun h X w H => zfz (n := 7) H.xk (by decide) (by decide)) rfl rfl rfl ?_
  conv => whnf
  refine zae rfl rfl rfl (by kernel_rfl) (fun h X w H => zfz (n := 18) H.xk (by decide) (by decide)) rfl rfl rfl ?_
  conv => whnf
  refine zxW ?_
  conv => whnf
  refine zrW rfl ?_
  conv => whnf
  refine zxW ?_
  conv => whnf
  refine zae rfl rfl rfl (by kernel_rfl) (fun h X w H => zfz (n := 17) H.xk (by decide) (by decide)) rfl rfl rfl ?_
  conv => whnf
  refine zae rfl rfl rfl (by kernel_rfl) (fun h X w H => zfz (n := 19) H.xk (by decide) (by decide)) rfl rfl rfl ?_
  conv => whnf
  refine zxW ?_
  conv => whnf
  refine zrW rfl ?_
  conv => whnf
  refine zxW ?_
  conv => whnf
  refine zaK 14 [] (by kernel_rfl) ?_
  conv => whnf
  refine zbi (show (i : Int) - 16 = ((i - 16 : Nat) : Int) by omega) (by omega) (by omega) ?_
  conv => whnf
  refine ⟨i - 16, ⟨rfl, by omega⟩, .inr ?_⟩
  conv => whnf
  refine ⟨by omega, ?_⟩
  conv => whnf
  refine zaW ?_
  conv => whnf
  refine zbi (show (i : Int) - 7 = ((i - 7 : Nat) : Int) by omega) (by omega) (by omega) ?_
  conv => whnf
  refine ⟨i - 7, ⟨rfl, by omega⟩, .inr ?_⟩
  conv => whnf
  refine ⟨by omega, ?_⟩
  conv => whnf
  refine zaW ?_
  conv => whnf
  refine zaW ?_
  conv => whnf
  refine ⟨i, ⟨rfl, by omega⟩, .inr ?_⟩
  conv => whnf
  refine zaH (zkQ (fun j => u32 (zk2 bk (i + 1) j)) rfl rfl rfl rfl rfl rfl (by omega) (by rw [zye bk h16]; exact znJ bk i)) ?_
  conv => whnf
  refine zc2 (by omega) (by omega) ?_
  conv => whnf
  exact ⟨i + 1, [], [], ⟨⟨by omega, hi2⟩, Nat.sub_lt_sub_left hi2 (Nat.lt_succ_self i)⟩, za3⟩
 have hi64 : i = 64 := by
   have : ¬ (i : Int) < 64 := of_decide_eq_false hc
   omega
 subst hi64
 conv => whnf
 refine ⟨fun i _ => rfl, ?_⟩
 conv => whnf
 exact zav rfl
theorem zFo (gt v : Nat → Nat) (k : List Nat) {t : Nat} (ht : t < 64) : zb1 (zb1 (zb1 (zb1 (zb1 (v 7) (zcy (zcy (zen (v 4) 6) (zen (v 4) 11)) (zen (v 4) 25))) (zcy (zeq (v 4) (v 5)) (zeq (zuT (v 4)) (v 6)))) (gt t)) (zk2 k 64 t)) (zb1 (zcy (zcy (zen (v 0) 2) (zen (v 0) 13)) (zen (v 0) 22)) (zcy (zcy (zeq (v 0) (v 1)) (zeq (v 0) (v 2))) (zeq (v 1) (v 2)))) = zgt v (t1R gt k v t) (t2R v) 0 := by
 rw [zz7 gt k v ht, zEn, zuC]
theorem zFp (gt v : Nat → Nat) (k : List Nat) {t : Nat} (ht : t < 64) : zb1 (v 3) (zb1 (zb1 (zb1 (zb1 (v 7) (zcy (zcy (zen (v 4) 6) (zen (v 4) 11)) (zen (v 4) 25))) (zcy (zeq (v 4) (v 5)) (zeq (zuT (v 4)) (v 6)))) (gt t)) (zk2 k 64 t)) = zgt v (t1R gt k v t) (t2R v) 4 := by
 rw [zz7 gt k v ht, zuD]
theorem zwm {bk : List Nat} {q : Qd} {gt hh : Nat → Nat} (hl : bk.length = 64) (hX : ∀ k ∈ X, k < w.heap.size) (hq : St (TxQ bk q) w X) (hG : St (zbH gt 0) w X) : Ct Tryz.prog 122 [.agg (ca [.row 8 fun i => u32 (hh i)]), .slice q.1 bk.length q.2] X w (.a (.agg [.row 8 fun i => u32 (zq2 gt hh bk i)])) [] [] := by
 refine vFn (k0 := 1) (rs := [.cell 4 148]) (svs := [.a (.agg [.row 8 fun i => u32 (hh i)]), .a (.s (.p (.hd 0 bk.length)))]) (R0 := [.sl 0 bk.length (TxG bk), .c (zbH gt 0)]) (hnQ [q]) Tryz.ntmps122 Tryz.func122 rfl rfl rfl rfl rfl zan (by kernel_rfl) hX (fun r hr => by
  rcases List.mem_cons.1 hr with rfl | hr
  ·exact hq
  ·rcases List.mem_singleton.1 hr with rfl; exact hG) ?_
 conv => whnf
 refine zae rfl rfl rfl (by kernel_rfl) (fun h X w H => zwk hl H.xk (H.fact 0 rfl)) rfl rfl rfl ?_
 conv => whnf
 refine ⟨fun i _ => rfl, ?_⟩
 conv => whnf
 refine ⟨fun i _ => rfl, ?_⟩
 conv => whnf
 refine ⟨Nat × (Nat → Nat), fun k l m R g => ⟨k, (16, zaD .i64 g.1) :: za2 [2, 4, 5, 6] l, (4, .blk [.row 8 fun i => u32 (g.2 i)] 148) :: m, [.c (zbH gt 0)]⟩, fun g => g.1 ≤ 64 ∧ g.2 = vR gt bk hh g.1, fun g => 64 - g.1, ⟨(0, hh), [], [1], ⟨Nat.zero_le _, rfl⟩, za3⟩, fun g hg => ?_⟩
 obtain ⟨t, v⟩ := g
 obtain ⟨ht, hM⟩ : t ≤ 64 ∧ v = vR gt bk hh t := hg
 conv => whnf
 refine vIf (fun hc => ?_) fun hc => ?_
 ·have ht2 : t < 64 := by
   have : (t : Int) < 64 := of_decide_eq_true hc
   omega
  conv => whnf
  refine zaK 5 [] (by kernel_rfl) ?_
  conv => whnf
  refine ⟨0, ⟨rfl, by decide⟩, .inl ?_⟩
  conv => whnf
  refine ⟨4, ⟨rfl, by decide⟩, .inl ?_⟩
  conv => whnf
  refine zaK 29 [] (by kernel_rfl) ?_
  conv => whnf
  refine ⟨7, ⟨rfl, by decide⟩, .inl ?_⟩
  conv => whnf
  refine zaA (zab (rs := []) (Rs := []) rfl rfl rfl (by kernel_rfl) rfl fun h X w H => zfz (n := 6) H.xk (by decide) (by decide)) ?_
  conv => whnf
  refine zaA (zab (rs := []) (Rs := []) rfl rfl rfl (by kernel_rfl) rfl fun h X w H => zfz (n := 11) H.xk (by decide) (by decide)) ?_
  conv => whnf
  refine zxW ?_
  conv => whnf
  refine zaA (zab (rs := []) (Rs := []) rfl rfl rfl (by kernel_rfl) rfl fun h X w H => zfz (n := 25) H.xk (by decide) (by decide)) ?_
  conv => whnf
  refine zxW ?_
  conv => whnf
  refine zaW ?_
  conv => whnf
  refine ⟨5, ⟨rfl, by decide⟩, .inl ?_⟩
  conv => whnf
  refine znW ?_
  conv => whnf
  refine zcA (zzv rfl rfl) ?_
  conv => whnf
  refine ⟨6, ⟨rfl, by decide⟩, .inl ?_⟩
  conv => whnf
  refine znW ?_
  conv => whnf
  refine zxW ?_
  conv => whnf
  refine zaW ?_
  conv => whnf
  refine ⟨t, ⟨rfl, ht2⟩, ?_⟩
  conv => whnf
  refine zcA (zFn 0 rfl ht2 rfl rfl (by kernel_rfl)) ?_
  conv => whnf
  refine zaW ?_
  conv => whnf
  refine ⟨t, ⟨rfl, ht2⟩, .inr ?_⟩
  conv => whnf
  refine ⟨ht2, ?_⟩
  conv => whnf
  refine zaW ?_
  conv => whnf
  refine zaK 23 [] (by kernel_rfl) ?_
  conv => whnf
  refine zaA (zab (rs := []) (Rs := []) rfl rfl rfl (by kernel_rfl) rfl fun h X w H => zfz (n := 2) H.xk (by decide) (by decide)) ?_
  conv => whnf
  refine zaA (zab (rs := []) (Rs := []) rfl rfl rfl (by kernel_rfl) rfl fun h X w H => zfz (n := 13) H.xk (by decide) (by decide)) ?_
  conv => whnf
  refine zxW ?_
  conv => whnf
  refine zaA (zab (rs := []) (Rs := []) rfl rfl rfl (by kernel_rfl) rfl fun h X w H => zfz (n := 22) H.xk (by decide) (by decide)) ?_
  conv => whnf
  refine zxW ?_
  conv => whnf
  refine ⟨1, ⟨rfl, by decide⟩, .inl ?_⟩
  conv => whnf
  refine znW ?_
  conv => whnf
  refine ⟨2, ⟨rfl, by decide⟩, .inl ?_⟩
  conv => whnf
  refine znW ?_
  conv => whnf
  refine zxW ?_
  conv => whnf
  refine ⟨1, ⟨rfl, by decide⟩, .inl ?_⟩
  conv => whnf
  refine ⟨2, ⟨rfl, by decide⟩, .inl ?_⟩
  conv => whnf
  refine znW ?_
  conv => whnf
  refine zxW ?_
  conv => whnf
  refine zaW ?_
  conv => whnf
  refine zaW ?_
  conv => whnf
  refine ⟨0, ⟨rfl, by decide⟩, .inl ?_⟩
  conv => whnf
  refine ⟨1, ⟨rfl, by decide⟩, .inl ?_⟩
  conv => whnf
  refine ⟨2, ⟨rfl, by decide⟩, .inl ?_⟩
  conv => whnf
  refine ⟨3, ⟨rfl, by decide⟩, .inl ?_⟩
  conv => whnf
  refine zaW ?_
  conv => whnf
  refine ⟨4, ⟨rfl, by decide⟩, .inl ?_⟩
  conv => whnf
  refine ⟨5, ⟨rfl, by decide⟩, .inl ?_⟩
  conv => whnf
  refine ⟨6, ⟨rfl, by decide⟩, .inl ?_⟩
  conv => whnf
  refine ⟨fun i => u32 (zgt v (t1R gt bk v t) (t2R v) i), ⟨congrArg u32 (zFo gt v bk ht2).symm, rfl, rfl, rfl, congrArg u32 (zFp gt v bk ht2).symm, rfl, rfl, rfl, trivial⟩, ?_⟩
  conv => whnf
  refine ⟨fun i _ => rfl, ?_⟩
  conv => whnf
  refine zc2 (by omega) (by omega) ?_
  conv => whnf
  exact ⟨(t + 1, zgt v (t1R gt bk v t) (t2R v)), [], [0], ⟨⟨ht2, zBu hM⟩, Nat.sub_lt_sub_left ht2 (Nat.lt_succ_self t)⟩, za3⟩
 have hi64 : t = 64 := by
   have : ¬ (t : Int) < 64 := of_decide_eq_false hc
   omega
 subst hi64
 conv => whnf
 refine ⟨Nat, fun k l m R i => ⟨k, (98, zaD .i64 i) :: za2 [2, 4, 6] l, (1, .blk [.row 8 fun j => u32 (zsr hh v i j)] 148) :: m, []⟩, fun i => i ≤ 8, fun i => 8 - i, ⟨0, [], [], Nat.zero_le _, za3⟩, fun i hi => ?_⟩
 conv => whnf
 refine vIf (fun hc => ?_) fun hc => ?_
 ·have hi2 : i < 8 := by
   have : (i : Int) < 8 := of_decide_eq_true hc
   omega
  conv => whnf
  refine zaK 6 [] (by kernel_rfl) ?_
  conv => whnf
  refine ⟨i, ⟨rfl, hi2⟩, .inr ?_⟩
  conv => whnf
  refine ⟨hi2, ?_⟩
  conv => whnf
  refine ⟨i, ⟨rfl, hi2⟩, .inr ?_⟩
  conv => whnf
  refine ⟨hi2, ?_⟩
  conv => whnf
  refine zaW ?_
  conv => whnf
  refine ⟨i, ⟨rfl, hi2⟩, .inr ?_⟩
  conv => whnf
  refine zaH (zkQ (fun j => u32 (zsr hh v (i + 1) j)) rfl rfl rfl rfl rfl rfl hi2 (by rw [zuF]; exact znz hh v i)) ?_
  conv => whnf
  refine zc2 (by omega) (by omega) ?_
  conv => whnf
  exact ⟨i + 1, [], [], ⟨hi2, Nat.sub_lt_sub_left hi2 (Nat.lt_succ_self i)⟩, za3⟩
 have hi8 : i = 8 := by
   have : ¬ (i : Int) < 8 := of_decide_eq_false hc
   omega
 subst hi8
 conv => whnf
 refine ⟨fun i _ => rfl, ?_⟩
 conv => whnf
 refine zav ?_
 rw [zq2, ← hM]
 rfl
end
end
section
open Go.RowKit
section
variable {X : List Nat} {w : World} {q : Qd}
theorem zs0 {kk : List Nat} (hl : kk.length ≤ 1000000000000) (hX : ∀ k ∈ X, k < w.heap.size) (hq : St (TxQ kk q) w X) : Ct Tryz.prog 119 [.slice q.1 kk.length q.2] X w (.a (.s (.p (.hd 0 (kk ++ zfL kk.length).length)))) [.gone] [.sl 0 (kk ++ zfL kk.length).length (TxG (kk ++ zfL kk.length))] := by
 refine vFn (k0 := 1) (rs := [.tmp 2]) (svs := [.a (.s (.p (.hd 0 kk.length)))]) (R0 := [.sl 0 kk.length (TxG kk)]) (hnQ [q]) Tryz.ntmps119 Tryz.func119 rfl rfl rfl rfl rfl zan (by kernel_rfl) hX (fun r hr => by rcases List.mem_singleton.1 hr with rfl; exact hq) ?_
 conv => whnf
 refine zae rfl rfl rfl (by kernel_rfl) (fun h X w H => zr4 H.xk kk _ (zqS (H.fact 0 rfl)) (by omega)) rfl rfl rfl ?_
 conv => whnf
 refine zaT (zpd (xs := kk) (b := 128) (kk ++ [128]) rfl rfl rfl rfl rfl rfl rfl ⟨by kernel_rfl, by kernel_rfl⟩ (by omega) rfl rfl rfl) ?_
 conv => whnf
 refine ⟨Nat × List Nat, fun k l m R g => ⟨2, (3, .a (.s (.p (.hd 1 g.2.length)))) :: za2 [0] l, [(1, zdK g.2 5)], [.sl 0 kk.length (TxG kk)]⟩, fun g => g.1 ≤ 63 - (kk.length + 8) % 64 ∧ g.2 = kk ++ 128 :: List.replicate g.1 0, fun g => 64 - g.1, ⟨(0, kk ++ [128]), [(1, 3)], [1], ⟨Nat.zero_le _, rfl⟩, za3⟩, fun g hg => ?_⟩
 obtain ⟨j, out⟩ := g
 obtain ⟨hj, hout⟩ : j ≤ 63 - (kk.length + 8) % 64 ∧ out = kk ++ 128 :: List.replicate j 0 := hg
 have hjl : out.length = kk.length + 1 + j := by rw [hout, jQ, List.length_cons, List.length_replicate]; omega
 conv => whnf
 refine ziM (c := 64) rfl (by decide) ?_
 conv => whnf
 have e1 : (((Sl.hd 1 (j, out).snd.length).len % 64 : Nat) : Int) = (((kk.length + 1 + j) % 64 : Nat) : Int) := by
  show ((out.length % 64 : Nat) : Int) = _
  rw [hjl]
 rw [e1]
 refine vIf (fun hc => ?_) fun hc => ?_
 ·have hne : (kk.length + 1 + j) % 64 ≠ 56 := by
   have h := bne_iff_ne.1 hc
   omega
  conv => whnf
  refine zaT (zpd (xs := out) (b := 0) (out ++ [0]) rfl rfl rfl rfl rfl rfl rfl ⟨by kernel_rfl, by kernel_rfl⟩ (by omega) rfl rfl rfl) ?_
  conv => whnf
  exact ⟨(j + 1, out ++ [0]), [(1, 3)], [0], ⟨⟨by omega, by show out ++ [0] = _; rw [hout, List.replicate_succ', List.append_assoc]; rfl⟩, Nat.sub_lt_sub_left (by omega) (Nat.lt_succ_self j)⟩, za3⟩
 have heq : (kk.length + 1 + j) % 64 = 56 := by
  have h := bne_eq_false_iff_eq.1 hc
  omega
 obtain rfl : j = 63 - (kk.length + 8) % 64 := by omega
 have et : out ++ beL 8 (8 * kk.length) = kk ++ zfL kk.length := by
  rw [hout, zfL, zst, zEo, show kk.length * 2 ^ 3 % 18446744073709551616 = 8 * kk.length from by omega, List.append_assoc]
 conv => whnf
 refine zA9 (by omega) (by show ((kk.length : Nat) : Int) ≤ _; omega) ?_
 conv => whnf
 refine zEg (show (8 : Int) * ((kk.length : Nat) : Int) = ((8 * kk.length : Nat) : Int) by omega) (by show (0 : Int) ≤ 8 * ((kk.length : Nat) : Int); omega) (by show 8 * ((kk.length : Nat) : Int) ≤ _; omega) ?_
 conv => whnf
 refine zae rfl rfl rfl (by kernel_rfl) (fun h X w H => zjh 8 (8 * kk.length) (by decide) (by omega) H.xk) rfl rfl rfl ?_
 conv => whnf
 refine zaT (zg1 (xs := out) (ys := beL 8 (8 * kk.length)) (r := 0) (e := 5) rfl rfl (zdL _ _).symm rfl rfl rfl ⟨by kernel_rfl, by kernel_rfl⟩ (by rw [zdL]; omega) rfl rfl) ?_
 rw [et]
 conv => whnf
 refine zkT (xs := kk ++ zfL kk.length) 3 rfl (by have := znK kk.length; rw [jQ]; omega) (fun x hx => (List.mem_append.1 hx).elim (hq.now.2.byt x) (zjW _ x)) rfl ?_
 exact zaZ [(0, 3)] [0] (.inl rfl) trivial rfl ⟨.inl rfl, trivial⟩
theorem zwn {ps : List (List Nat)} (hfl : ps.flatten.length ≤ 1000000000000) (hX : ∀ k ∈ X, k < w.heap.size) (hq : St (SlQ zay ps q) w X) : Ct Tryz.prog 120 [.slice q.1 ps.length q.2] X w (.a (.s (.p (.hd 0 ps.flatten.length)))) [.gone] [.sl 0 ps.flatten.length (TxG ps.flatten)] := by
 have hbig := SlQ.big hq
 refine vFn (k0 := 1) (rs := [.tmp 2]) (svs := [.a (.s (.p (.hd 0 ps.length)))]) (R0 := [.sl 0 ps.length (SlF zay ps)]) (hnQ [q]) Tryz.ntmps120 Tryz.func120 rfl rfl rfl rfl rfl zan (by kernel_rfl) hX (fun r hr => by rcases List.mem_singleton.1 hr with rfl; exact hq) ?_
 conv => whnf
 refine ⟨Nat × List Nat, fun k l m R g => ⟨2, (8, zaD .i64 g.1) :: (3, .a (.s (.p (.hd 1 g.2.length)))) :: za2 [6, 7] l, [(1, zdK g.2 5)], [.sl 0 ps.length (SlF zay ps)]⟩, fun g => g.1 ≤ ps.length ∧ g.2 = (ps.take g.1).flatten, fun g => ps.length - g.1, ⟨(0, []), [], [0], ⟨Nat.zero_le _, rfl⟩, za3⟩, fun g hg => ?_⟩
 obtain ⟨i, out⟩ := g
 obtain ⟨hi, hout⟩ : i ≤ ps.length ∧ out = (ps.take i).flatten := hg
 have hol : out.length ≤ ps.flatten.length := by rw [hout]; exact zuW ps i
 conv => whnf
 refine vIf (fun hc => ?_) fun hc => ?_
 ·have hi2 : i < ps.length := by
   have : (i : Int) < ((ps.length : Nat) : Int) := by simpa [Sl.len] using hc
   omega
  obtain ⟨x, hxi⟩ : ∃ x, ps[i]? = some x := ⟨_, jP hi2⟩
  have hE : out ++ x = (ps.take (i + 1)).flatten := by rw [hout, zsx hxi]
  have hol2 : (out ++ x).length ≤ ps.flatten.length := by rw [hE]; exact zuW ps (i + 1)
  conv => whnf
  refine ⟨i, ⟨rfl, hi2, hi2⟩, ?_⟩
  conv => whnf
  refine zbO (zuu (x := x) 0 hxi rfl rfl rfl (by kernel_rfl)) rfl rfl ?_
  conv => whnf
  refine zaT (zg1 (xs := out) (ys := x) (r := 0) (e := 5) rfl rfl rfl rfl rfl rfl ⟨by kernel_rfl, by kernel_rfl⟩ (by rw [← jQ]; omega) rfl rfl) ?_
  conv => whnf
  refine zc2 (by omega) (by omega) ?_
  conv => whnf
  exact ⟨(i + 1, out ++ x), [(1, 3)], [1], ⟨⟨hi2, hE⟩, Nat.sub_lt_sub_left hi2 (Nat.lt_succ_self i)⟩, za3⟩
 have hi8 : i = ps.length := by
   have : ¬ (i : Int) < ((ps.length : Nat) : Int) := by simpa [Sl.len] using hc
   omega
 subst hi8
 rw [List.take_length] at hout
 conv => whnf
 rw [← hout]
 refine zkT (xs := out) 1 rfl (by omega) (fun x hx => ?_) rfl ?_
 ·rw [hout] at hx
  obtain ⟨t, ht, hxt⟩ := List.mem_flatten.1 hx
  exact zmF hq t ht x hxt
 exact zaZ [(0, 1)] [0] (.inl rfl) trivial rfl ⟨.inl rfl, trivial⟩
theorem zwo (hX : ∀ k ∈ X, k < w.heap.size) : Ct Tryz.prog 121 [] X w (.a (.agg [.row 8 fun i => u32 (iv0 i)])) [] [] := by
 refine vFn (k0 := 0) (rs := [.cell 0 148]) (svs := []) (R0 := []) (hnQ []) Tryz.ntmps121 Tryz.func121 rfl rfl rfl rfl rfl zan (by kernel_rfl) hX (fun r hr => by cases hr) ?_
 conv => whnf
 refine ⟨fun i => u32 (iv0 i), ⟨rfl, rfl, rfl, rfl, rfl, rfl, rfl, rfl, trivial⟩, ?_⟩
 conv => whnf
 refine ⟨fun i _ => rfl, ?_⟩
 conv => whnf
 exact zav rfl
theorem zff {kk : List Nat} {b j : Nat} (hj : j = kk.length) (h : kk.length < 32) : cl [.key (kk ++ [b])] = (cl [.key kk]).set j (bv b) := by
 subst hj
 have e : ∀ l : List Nat, cl [.key l] = (List.range 32).map fun i => bv (l.getD i 0) := fun l => by simp [cl, Chunk.cells, zgQ, Function.comp_def]
 rw [e, e]
 refine List.ext_getElem? fun t => ?_
 rw [List.getElem?_set]
 by_cases ht : t < 32
 ·by_cases htk : kk.length = t
  ·subst htk
   simp [h]
  ·rw [if_neg htk]
   simp only [List.getElem?_map, List.getElem?_range ht, Option.map_some, jR]
   by_cases h2 : t < kk.length
   ·rw [List.getElem?_append_left h2]
   ·rw [List.getElem?_eq_none (by simp; omega), List.getElem?_eq_none (by omega)]
 ·rw [List.getElem?_eq_none (by simpa using ht), if_neg (by omega), List.getElem?_eq_none (by simpa using ht)]
theorem zzw {h : Nat → Nat} (hh : ∀ i, i < 8 → h i < 4294967296) (hX : ∀ k ∈ X, k < w.heap.size) : Ct Tryz.prog 123 [.agg (ca [.row 8 fun i => u32 (h i)])] X w (.a (.agg [.key (zdt h 8)])) [] [] := by
 refine vFn (k0 := 0) (rs := [.cell 2 23]) (svs := [.a (.agg [.row 8 fun i => u32 (h i)])]) (R0 := []) (hnQ []) Tryz.ntmps123 Tryz.func123 rfl rfl rfl rfl rfl zan (by kernel_rfl) hX (fun r hr => by cases hr) ?_
 conv => whnf
 refine ⟨Nat, fun k l m R i => ⟨3, (9, zaD .i64 i) :: za2 [2, 3, 8] l, (2, .blk [.key (zdt h i)] 23) :: m, []⟩, fun i => i ≤ 8, fun i => 8 - i, ⟨0, [], [], Nat.zero_le _, za3⟩, fun i hi => ?_⟩
 conv => whnf
 refine vIf (fun hc => ?_) fun hc => ?_
 ·have hi2 : i < 8 := by
   have : (i : Int) < 8 := of_decide_eq_true hc
   omega
  have hh2 := hh i hi2
  conv => whnf
  refine ⟨i, ⟨rfl, hi2⟩, ?_⟩
  conv => whnf
  refine zA9 (by omega) (by omega) ?_
  conv => whnf
  refine zae rfl rfl rfl (by kernel_rfl) (fun h1 X w H => zjh 4 (h i) (by decide) (by omega) H.xk) rfl rfl rfl ?_
  conv => whnf
  refine ⟨Nat × List Nat, fun k l m R g => ⟨4, (17, zaD .i64 g.1) :: za2 [2, 3, 4, 8, 9, 15, 16] l, (2, .blk [.key g.2] 23) :: m, R⟩, fun g => g.1 ≤ 4 ∧ g.2 = zdt h i ++ (beL 4 (h i)).take g.1, fun g => 4 - g.1, ⟨(0, zdt h i), [], [0], ⟨Nat.zero_le _, (List.append_nil _).symm⟩, za3⟩, fun g hg => ?_⟩
  obtain ⟨n, kk⟩ := g
  obtain ⟨hn, hkk⟩ : n ≤ 4 ∧ kk = zdt h i ++ (beL 4 (h i)).take n := hg
  have hkl : kk.length = 4 * i + n := by rw [hkk, jQ, ze6, List.length_take, zdL]; omega
  conv => whnf
  refine vIf (fun hc => ?_) fun hc => ?_
  ·have hn2 : n < 4 := by
    have : (n : Int) < ((4 : Nat) : Int) := of_decide_eq_true hc
    omega
   obtain ⟨b, hb⟩ : ∃ b, (beL 4 (h i))[n]? = some b := ⟨_, jP (by rw [zdL]; exact hn2)⟩
   conv => whnf
   refine ⟨n, ⟨rfl, hn2, hn2⟩, ?_⟩
   conv => whnf
   refine zb4 (zeC 0 hb rfl rfl rfl (by kernel_rfl)) rfl rfl ?_
   conv => whnf
   refine zbi (show (4 : Int) * (i : Int) = ((4 * i : Nat) : Int) by omega) (by omega) (by omega) ?_
   conv => whnf
   refine zbi (z' := ((4 * i + n : Nat) : Int)) (show ((4 * i : Nat) : Int) + (n : Int) = _ by omega) (by show (-9223372036854775808 : Int) ≤ ((4 * i : Nat) : Int) + (n : Int); omega) (by show ((4 * i : Nat) : Int) + (n : Int) ≤ _; omega) ?_
   conv => whnf
   refine ⟨4 * i + n, ⟨rfl, by omega⟩, ?_⟩
   conv => whnf
   refine .inr ?_
   conv => whnf
   refine zaH (ziK (cs := [.key kk]) (cs' := [.key (kk ++ [b])]) rfl rfl rfl rfl rfl (by kernel_rfl) (by show 0 + (4 * i + n) * 1 < 32; omega) fun h => zff (kk := kk) (b := b) (j := 0 + (4 * i + n) * 1) (by omega) (by omega)) ?_
   conv => whnf
   refine zc2 (by omega) (by omega) ?_
   conv => whnf
   exact ⟨(n + 1, kk ++ [b]), [], [0], ⟨⟨hn2, by show kk ++ [b] = _; rw [hkk, List.take_add_one, hb, List.append_assoc]; rfl⟩, Nat.sub_lt_sub_left hn2 (Nat.lt_succ_self n)⟩, za3⟩
  have hn4 : n = 4 := by
    have : ¬ (n : Int) < ((4 : Nat) : Int) := of_decide_eq_false hc
    omega
  subst hn4
  have hE : kk = zdt h (i + 1) := by rw [hkk, zfM, zBv, List.take_of_length_le (by rw [zdL]; decide)]
  subst hE
  conv => whnf
  refine zc2 (by omega) (by omega) ?_
  conv => whnf
  exact ⟨i + 1, [], [], ⟨hi2, Nat.sub_lt_sub_left hi2 (Nat.lt_succ_self i)⟩, za3⟩
 have hi8 : i = 8 := by
   have : ¬ (i : Int) < 8 := of_decide_eq_false hc
   omega
 subst hi8
 conv => whnf
 exact zav rfl
theorem zwp {ps : List (List Nat)} {gt : Nat → Nat} (hfl : ps.flatten.length ≤ 100000000000) (hX : ∀ k ∈ X, k < w.heap.size) (hq : St (SlQ zay ps q) w X) (hG : St (zbH gt 0) w X) : Ct Tryz.prog 95 [.slice q.1 ps.length q.2] X w (.a (.agg [.key (znA gt ps)])) [] [] := by
 refine vFn (k0 := 1) (rs := [.cell 2 23]) (svs := [.a (.s (.p (.hd 0 ps.length)))]) (R0 := [.sl 0 ps.length (SlF zay ps), .c (zbH gt 0)]) (hnQ [q]) Tryz.ntmps95 Tryz.func95 rfl rfl rfl rfl rfl zan (by kernel_rfl) hX (fun r hr => by
  rcases List.mem_cons.1 hr with rfl | hr
  ·exact hq
  ·rcases List.mem_singleton.1 hr with rfl; exact hG) ?_
 conv => whnf
 refine zae rfl rfl rfl (by kernel_rfl) (fun h X w H => zwn (by omega) H.xk (H.fact 0 rfl)) rfl rfl rfl ?_
 obtain ⟨fl, hf⟩ : ∃ fl, fl = ps.flatten := ⟨_, rfl⟩
 rw [← hf] at hfl ⊢
 conv => whnf
 refine zae rfl rfl rfl (by kernel_rfl) (fun h X w H => zs0 (kk := fl) (by omega) H.xk (H.fact 0 rfl)) rfl rfl rfl ?_
 obtain ⟨bs, hb⟩ : ∃ bs, bs = fl ++ zfL fl.length := ⟨_, rfl⟩
 have hbl : bs.length % 64 = 0 := by rw [hb, jQ]; exact zyf _
 have hbb : bs.length ≤ 100000000072 := by have := znK fl.length; rw [hb, jQ]; omega
 have hby : ∀ x ∈ bs, x < 256 := fun x hx => by
  rw [hb, hf] at hx
  rcases List.mem_append.1 hx with h | h
  ·obtain ⟨t, ht, hxt⟩ := List.mem_flatten.1 h
   exact zmF hq t ht x hxt
  ·exact zjW _ x h
 rw [← hb]
 conv => whnf
 refine zae rfl rfl rfl (by kernel_rfl) (fun h X w H => zwo H.xk) rfl rfl rfl ?_
 conv => whnf
 refine ⟨fun i _ => rfl, ?_⟩
 conv => whnf
 refine ⟨Nat × (Nat → Nat), fun k l m R g => ⟨k, (5, zaD .i64 g.1) :: za2 [2, 3, 4] l, (4, .blk [.row 8 fun i => u32 (g.2 i)] 148) :: m, [.sl 3 bs.length (TxG bs), .c (zbH gt 0)]⟩, fun g => g.1 ≤ bs.length ∧ g.1 % 64 = 0 ∧ zfK gt g.2 (bs.drop g.1) = zfK gt iv0 bs ∧ ∀ i, i < 8 → g.2 i < 4294967296, fun g => bs.length - g.1, ⟨(0, iv0), [], [0, 3], ⟨Nat.zero_le _, rfl, rfl, zEq⟩, za3⟩, fun g hg => ?_⟩
 obtain ⟨i, h⟩ := g
 obtain ⟨hi, him, hF, hlt⟩ : i ≤ bs.length ∧ i % 64 = 0 ∧ zfK gt h (bs.drop i) = zfK gt iv0 bs ∧ ∀ i, i < 8 → h i < 4294967296 := hg
 conv => whnf
 refine vIf (fun hc => ?_) fun hc => ?_
 ·have hi2 : i < bs.length := by
   have : (i : Int) < ((bs.length : Nat) : Int) := by simpa [Sl.len] using hc
   omega
  obtain ⟨bk, hbk⟩ : ∃ bk, bk = (bs.drop i).take (i + 64 - i) := ⟨_, rfl⟩
  have hkl : bk.length = 64 := by rw [hbk, List.length_take, List.length_drop]; omega
  have hkb : ∀ x ∈ bk, x < 256 := fun x hx => by rw [hbk] at hx; exact hby x (List.mem_of_mem_drop (List.mem_of_mem_take hx))
  conv => whnf
  refine zaK 6 [] (by kernel_rfl) ?_
  conv => whnf
  refine zbi (show (i : Int) + 64 = ((i + 64 : Nat) : Int) by omega) (by omega) (by omega) ?_
  conv => whnf
  refine zaA (zgs bk (lo := i) (hi := i + 64) 0 hbk rfl (by omega) (by omega) fun h w hf => ztD rfl (by kernel_rfl) rfl rfl rfl rfl rfl (by omega) (by have := hf.cap; omega)) ?_
  conv => whnf
  refine zae rfl rfl rfl (by kernel_rfl) (fun h1 X w H => zwm (hh := h) hkl H.xk (H.fact 0 rfl) (H.fact 2 rfl)) rfl rfl rfl ?_
  rw [← zyd gt h bk (zBw hkb)]
  conv => whnf
  refine ⟨fun i _ => rfl, ?_⟩
  conv => whnf
  refine zbi (show (i : Int) + 64 = ((i + 64 : Nat) : Int) by omega) (by omega) (by omega) ?_
  conv => whnf
  have hbk2 : (bs.drop i).take 64 = bk := by rw [hbk, show i + 64 - i = 64 by omega]
  have hd : (bs.drop i).drop 64 = bs.drop (i + 64) := by rw [List.drop_drop]
  refine ⟨(i + 64, zft gt h bk), [], [1, 2], ⟨⟨by omega, by omega, ?_, zuX gt h bk⟩, Nat.sub_lt_sub_left hi2 (Nat.lt_add_of_pos_right (by decide))⟩, za3⟩
  rw [← hF, zd0 (l := bs.drop i) (by rw [List.length_drop]; omega), hbk2, hd]
 have hi8 : i = bs.length := by
   have : ¬ (i : Int) < ((bs.length : Nat) : Int) := by simpa [Sl.len] using hc
   omega
 subst hi8
 conv => whnf
 refine zae rfl rfl rfl (by kernel_rfl) (fun h1 X w H => zzw hlt H.xk) rfl rfl rfl ?_
 conv => whnf
 refine zav ?_
 rw [ziQ, ← hf, ← hb, ← hF, List.drop_length, zdd (by simp)]
 rfl
end
end
section
open Go.RowKit
section
variable {X : List Nat} {w : World} {gt : Nat → Nat} {key : List Nat} {ps : List (List Nat)} {q q2 : Qd}
theorem zwq (by_ : Nat) (hby : by_ < 256) (h64 : key.length ≤ 64) (hX : ∀ k ∈ X, k < w.heap.size) (hq : St (TxQ key q) w X) : Ct Tryz.prog 154 [.slice q.1 key.length q.2, bv by_] X w (slS 0 0 64 64) [.blk [.row 64 fun j => bv (zoC key by_ 64 j)] 5] [] := by
 refine vFn (k0 := 1) (rs := [.tmp 4]) (svs := [.a (.s (.p (.hd 0 key.length))), zgW (bv by_)]) (R0 := [.sl 0 key.length (TxG key)]) (hnQ [q]) Tryz.ntmps154 Tryz.func154 rfl rfl rfl rfl rfl zan (by kernel_rfl) hX (fun r hr => by rcases List.mem_singleton.1 hr with rfl; exact hq) ?_
 conv => whnf
 refine .inl ?_
 conv => whnf
 refine vF (by simp [Sl.len]; omega) ?_
 conv => whnf
 refine zbO (zzZ (e := 5) 64 ⟨by kernel_rfl, by kernel_rfl, by kernel_rfl⟩ rfl rfl rfl rfl rfl (by decide)) rfl rfl ?_
 conv => whnf
 refine ⟨Nat, fun k l m R i => ⟨k, (18, zaD .i64 i) :: za2 [0, 1, 6, 17] l, (1, .blk [.row 64 fun j => bv (zoC key by_ i j)] 5) :: m, R⟩, fun i => i ≤ 64, fun i => 64 - i, ⟨0, [], [0], Nat.zero_le _, za3⟩, fun i hi => ?_⟩
 conv => whnf
 refine vIf (fun hc => ?_) fun hc => ?_
 ·have hi2 : i < 64 := by
   have : (i : Int) < 64 := of_decide_eq_true hc
   omega
  conv => whnf
  refine .inr ⟨Unit, fun k l m R _ => ⟨k, za2 [0, 1, 6, 17, 18] l, (1, .blk [.row 64 fun j => bv (zoC key by_ (i + 1) j)] 5) :: m, R⟩, fun _ => True, ?_, fun _ _ => ?_⟩
  rotate_left
  ·conv => whnf
   refine zc2 (by omega) (by omega) ?_
   conv => whnf
   exact ⟨i + 1, [], [0], ⟨hi2, Nat.sub_lt_sub_left hi2 (Nat.lt_succ_self i)⟩, za3⟩
  conv => whnf
  refine ⟨i, ⟨rfl, hi2⟩, .inr ?_⟩
  conv => whnf
  refine zaH (zkQ (fun j => bv (zuY key by_ i j)) rfl rfl rfl rfl rfl rfl hi2 (fun j => zyg key by_ i j)) ?_
  conv => whnf
  refine vIf (fun hc => ?_) fun hc => ?_
  ·have hi3 : i < key.length := by
    have : (i : Int) < ((key.length : Nat) : Int) := of_decide_eq_true hc
    omega
   conv => whnf
   refine zaK 8 [] (by kernel_rfl) ?_
   conv => whnf
   refine ⟨i, ⟨rfl, hi2⟩, .inr ?_⟩
   conv => whnf
   refine ⟨hi2, ?_⟩
   conv => whnf
   refine ⟨i, ⟨rfl, hi3, hi3⟩, ?_⟩
   conv => whnf
   refine zcA (zeC 0 (zfJ 0 hi3) rfl rfl rfl (by kernel_rfl)) ?_
   conv => whnf
   refine zx8 (x := zuY key by_ i i) ?_
   conv => whnf
   refine ⟨i, ⟨rfl, hi2⟩, .inr ?_⟩
   conv => whnf
   refine zaH (zkQ (fun j => bv (zoC key by_ (i + 1) j)) rfl rfl rfl rfl rfl rfl hi2 (fun j => by rw [zBx]; exact zBy key by_ i j)) ?_
   conv => whnf
   exact ⟨(), [], [0], trivial, za3⟩
  ·have hi3 : key.length ≤ i := by
    have : ¬ (i : Int) < ((key.length : Nat) : Int) := of_decide_eq_false hc
    omega
   conv => whnf
   refine ⟨(), [], [0], trivial, ?_⟩
   rw [zyh key hby hi3]
   exact za3
 have hi8 : i = 64 := by
   have : ¬ (i : Int) < 64 := of_decide_eq_false hc
   omega
 subst hi8
 conv => whnf
 exact zaZ [(0, 1)] [] (.inl rfl) ⟨.inl rfl, trivial⟩ rfl trivial
theorem zwr {by_ : Nat} {h : Hn} {i : Nat} {Y : List Nat} {w : World} (hb : St (AtC ⟨h.b i, 0, none⟩ (zaC h [.row 64 fun j => bv (zoC key by_ 64 j)])) w Y) : St (TxF (some ⟨h.b i, 0, none⟩) 64 (zcW key by_)) w Y :=
 zfp hb (zEr key by_) (Nat.le_of_eq (zbP key by_)) (by rw [zbP]; decide) (zjU key by_)
theorem zC9 (h64 : key.length ≤ 64) (hfl : ps.flatten.length ≤ 10000000000) (hX : ∀ k ∈ X, k < w.heap.size) (hq : St (TxQ key q) w X) (hL : St (SlQ zay ps q2) w X) (hG : St (zbH gt 0) w X) : Ct Tryz.prog 118 [.slice q.1 key.length q.2, .slice q2.1 ps.length q2.2] X w (.a (.agg [.key (znG gt key ps)])) [] [] := by
 refine vFn (k0 := 2) (rs := [.cell 4 23]) (svs := [.a (.s (.p (.hd 0 key.length))), .a (.s (.p (.hd 1 ps.length)))]) (R0 := [.sl 0 key.length (TxG key), .sl 1 ps.length (SlF zay ps), .c (zbH gt 0)]) (hnQ [q, q2]) Tryz.ntmps118 Tryz.func118 rfl rfl rfl rfl rfl zan (by kernel_rfl) hX (fun r hr => by
  rcases List.mem_cons.1 hr with rfl | hr
  ·exact hq
  rcases List.mem_cons.1 hr with rfl | hr
  ·exact hL
  ·rcases List.mem_singleton.1 hr with rfl; exact hG) ?_
 conv => whnf
 refine zae rfl rfl rfl (by kernel_rfl) (fun h X w H => zwq 54 (by decide) h64 H.xk (H.fact 0 rfl)) rfl rfl rfl ?_
 conv => whnf
 refine zae rfl rfl rfl (by kernel_rfl) (fun h X w H => zwn (by omega) H.xk (H.fact 1 rfl)) rfl rfl rfl ?_
 obtain ⟨fl, hf⟩ : ∃ fl, fl = ps.flatten := ⟨_, rfl⟩
 rw [← hf] at hfl ⊢
 conv => whnf
 refine zaH (zba [5, 3] rfl rfl (zaE (rs := []) (Rs := []) (zab (rs := []) (Rs := []) rfl rfl rfl (by kernel_rfl) rfl fun h X w H => zwp (ps := [zcW key 54, fl]) (q := (some ⟨h.b 5, 0, none⟩, 2)) (by simp [zbP]; omega) H.xk (zcM (ql := [(some ⟨h.b 3, 0, none⟩, 64), h.r 4]) rfl (by simp) (by
   have := H.fact 1 rfl
   have e : zaC h [.one (.p (.sl 3 0 64 64)), .one (.p (.hd 4 fl.length))] = zcB [zcW key 54, fl] [(some ⟨h.b 3, 0, none⟩, 64), h.r 4] := by
    simp only [zcB, zbP]
    rfl
   rw [← e]
   exact this) fun t x hx => by
   match t with
   | 0 => obtain rfl := Option.some.inj hx; exact zwr (H.fact 0 rfl)
   | 1 => obtain rfl := Option.some.inj hx; exact zeB (H.fact 2 rfl)
   | t + 2 => simp at hx) (H.fact 5 rfl)) rfl rfl)) ?_
 conv => whnf
 obtain ⟨ink, hink⟩ : ∃ ink, ink = znA gt [zcW key 54, fl] := ⟨_, rfl⟩
 have hil : ink.length = 32 := by rw [hink]; exact zhX _ _
 have hib : ∀ x ∈ ink, x < 256 := by rw [hink]; exact zgu _ _
 rw [← hink]
 conv => whnf
 refine zaK 3 [] (by kernel_rfl) ?_
 conv => whnf
 refine zaA (zab (rs := [.blk [.row 64 fun j => bv (zoC key 92 64 j)] 5]) (Rs := []) rfl rfl rfl (by kernel_rfl) rfl fun h X w H => zwq 92 (by decide) h64 H.xk (H.fact 3 rfl)) ?_
 conv => whnf
 refine zaH (zba [8, 7, 6] rfl rfl (zaE (rs := []) (Rs := []) (zab (rs := []) (Rs := []) rfl rfl rfl (by kernel_rfl) rfl fun h X w H => zwp (ps := [zcW key 92, ink]) (q := (some ⟨h.b 8, 0, none⟩, 2)) (by simp [zbP]; omega) H.xk (zcM (ql := [(some ⟨h.b 7, 0, none⟩, 64), (some ⟨h.b 6, 0, none⟩, 32)]) rfl (by simp) (by
   have := H.fact 2 rfl
   have e : zaC h [.one (.p (.sl 7 0 64 64)), .one (.p (.sl 6 0 32 32))] = zcB [zcW key 92, ink] [(some ⟨h.b 7, 0, none⟩, 64), (some ⟨h.b 6, 0, none⟩, 32)] := by
    simp only [zcB, zbP, hil]
    rfl
   rw [← e]
   exact this) fun t x hx => by
   match t with
   | 0 => obtain rfl := Option.some.inj hx; exact zwr (H.fact 1 rfl)
   | 1 => obtain rfl := Option.some.inj hx; exact zg2 hil hib (H.fact 0 rfl)
   | t + 2 => simp at hx) (H.fact 8 rfl)) rfl rfl)) ?_
 conv => whnf
 refine zav ?_
 rw [hink, hf, zyi]
 rfl
end
end
section
open Go.RowKit
section
variable {P : Program} {T : Tab} {N : Nat}
theorem zDa {c : Code} {k : Nat} {l : LE} {m : MB} {R : List SF} {Kx : Nat → KS} {Kr : KS} (s : Nat → LE → MB → List SF → VS) (f : List (Nat × Nat)) (js : List Nat) (h0 : SubV f js k l m R (s k l m R))
  (h : (s k l m R).on fun k1 l1 m1 R1 => vC P T N c k1 l1 m1 R1 (fun k' l' m' R' => ∃ (s' : Nat → LE → MB → List SF → VS) (f : List (Nat × Nat)) (js : List Nat), SubV f js k' l' m' R' (s' k' l' m' R') ∧ (s' k' l' m' R').on fun k l m R => vC P T N c k l m R (fun _ _ _ _ => False) Kx Kr) Kx Kr) :
  ∃ (γ : Type) (I : Nat → LE → MB → List SF → γ → VS) (φ : γ → Prop) (μ : γ → Nat), zDA γ (I k l m R) φ k l m R ∧
   ∀ g, φ g → (I k l m R g).on fun k1 l1 m1 R1 => vC P T N c k1 l1 m1 R1 (fun k' l' m' R' => ∃ (g' : γ) (f : List (Nat × Nat)) (js : List Nat), (φ g' ∧ μ g' < μ g) ∧ SubV f js k' l' m' R' (I k l m R g')) Kx Kr := by
 refine ⟨Option VS, fun k l m R g => g.getD (s k l m R), fun g => ∀ t, g = some t → t.on fun k l m R => vC P T N c k l m R (fun _ _ _ _ => False) Kx Kr, fun g => cond g.isNone 1 0, ⟨none, f, js, fun t ht => (by cases ht), h0⟩, fun g hg => ?_⟩
 cases g with
 | none =>
  refine Eq.mp (congrArg (fun K : KS => (s k l m R).on fun k1 l1 m1 R1 => vC P T N c k1 l1 m1 R1 K Kx Kr) ?_) h
  funext k' l' m' R'
  refine propext ⟨?_, ?_⟩
  ·rintro ⟨s', f, js, h1, h2⟩
   exact ⟨some (s' k' l' m' R'), f, js, ⟨fun t ht => by obtain rfl := Option.some.inj ht; exact h2, Nat.zero_lt_one⟩, h1⟩
  ·rintro ⟨g', f, js, ⟨h1, h2⟩, h3⟩
   cases g' with
   | none => exact absurd h2 (Nat.lt_irrefl _)
   | some t => exact ⟨fun _ _ _ _ => t, f, js, h3, h1 t rfl⟩
 | some t =>
  refine Eq.mp (congrArg (fun K : KS => t.on fun k1 l1 m1 R1 => vC P T N c k1 l1 m1 R1 K Kx Kr) ?_) (hg t rfl)
  funext k' l' m' R'
  refine propext ⟨False.elim, ?_⟩
  rintro ⟨g', f, js, ⟨h1, h2⟩, h3⟩
  exact Nat.not_lt_zero _ h2
end
section
variable {X : List Nat} {w : World} {gt : Nat → Nat} {key : List Nat} {ps : List (List Nat)} {q q2 : Qd}
theorem zs1 {kk info : List Nat} {n : Nat} (hk32 : kk.length = 32) (hkb : ∀ x ∈ kk, x < 256) (hn1 : 1 ≤ n) (hn : n ≤ 32) (hi20 : info.length ≤ 1048576) (hX : ∀ k ∈ X, k < w.heap.size) (hq : St (TxQ info q) w X) (hG : St (zbH gt 0) w X) : Ct Tryz.prog 93 [.agg (ca [.key kk]), .slice q.1 info.length q.2, .int .i64 n] X w (.tup [.s (.p (.hd 0 n)), .s (.p (.v (.int .i64 0)))]) [.gone] [.sl 0 n (TxG (zsw gt kk info n))] := by
 obtain ⟨mc, hmc⟩ : ∃ mc, mc = znG gt kk [[], info, [1]] := ⟨_, rfl⟩
 have hml : mc.length = 32 := by rw [hmc]; exact zgv _ _ _
 have hmb : ∀ x ∈ mc, x < 256 := by rw [hmc]; exact ziN _ _ _
 have hE : zsw gt kk info n = mc.take n := by
  rw [zsw, show (n + 31) / 32 = 0 + 1 by omega, zq0 (last := []) (out := []) rfl, hmc, List.nil_append]
 refine vFn (k0 := 1) (rs := [.tmp 6, .tmp 7]) (svs := [.a (.agg [.key kk]), .a (.s (.p (.hd 0 info.length))), zaD .i64 n]) (R0 := [.sl 0 info.length (TxG info), .c (zbH gt 0)]) (hnQ [q]) Tryz.ntmps93 Tryz.func93 rfl rfl rfl rfl rfl zan (by kernel_rfl) hX (fun r hr => by
  rcases List.mem_cons.1 hr with rfl | hr
  ·exact hq
  ·rcases List.mem_singleton.1 hr with rfl; exact hG) ?_
 conv => whnf
 refine vF (decide_eq_false (by omega)) ?_
 conv => whnf
 refine vF (decide_eq_false (by show ¬ (((info.length : Nat) : Int) > 1048576); omega)) ?_
 conv => whnf
 refine zDa (fun k l m R => ⟨2, za2 [1, 2, 3, 8, 9, 10] l, m, R⟩) [] [0, 1] za3 ?_
 conv => whnf
 refine vT (decide_eq_true (by show (0 : Int) < n; omega)) ?_
 conv => whnf
 refine ⟨1, rfl, ?_⟩
 conv => whnf
 refine zaH (zba [3, 2, 1] rfl rfl (zaE (rs := []) (Rs := []) (zab (sv := .a (.agg [.key (znG gt kk [[], info, [1]])])) (rs := []) (Rs := []) rfl rfl rfl (by kernel_rfl) rfl fun h X w H => ?_) rfl rfl)) ?_
 ·have := zC9 (gt := gt) (key := kk) (ps := [[], info, [1]]) (q := (some ⟨h.b 1, 0, none⟩, 32)) (q2 := (some ⟨h.b 3, 0, none⟩, 3)) (by omega) (by simp; omega) H.xk (zno (zg2 hk32 hkb (H.fact 0 rfl))) (zcM (ql := [(none, 0), h.r 0, (some ⟨h.b 2, 0, none⟩, 1)]) rfl (by simp) (H.fact 2 rfl) fun t x hx => by
   match t with
   | 0 => obtain rfl := Option.some.inj hx; exact zko
   | 1 => obtain rfl := Option.some.inj hx; exact zeB (H.fact 3 rfl)
   | 2 => obtain rfl := Option.some.inj hx; exact zfp (H.fact 1 rfl) rfl (jV _) (by simp) (fun x hx => by rcases List.mem_singleton.1 hx with rfl; omega)
   | t + 3 => simp at hx) (H.fact 4 rfl)
  rw [hk32] at this
  exact this
 rw [← hmc]
 conv => whnf
 refine zpa 2 (zx7 (cs := [.key mc]) (ys := mc) (e := 5) rfl (fun h => by rw [← zgd hml]; exact zm1 _) rfl rfl rfl hml.symm ⟨by kernel_rfl, by kernel_rfl⟩ (by omega) rfl rfl rfl) ?_
 conv => whnf
 refine ⟨2, rfl, ?_⟩
 conv => whnf
 refine ⟨fun k l m R => ⟨k, (8, .a (.s (.p (.hd 6 mc.length)))) :: za2 [2] l, [(6, zdK mc 5)], []⟩, [], [], za3, ?_⟩
 conv => whnf
 refine vF (decide_eq_false (by show ¬ (((mc.length : Nat) : Int) < n); omega)) ?_
 conv => whnf
 refine zaT (zgr (xs := mc) 6 rfl (by omega) hmb rfl (zaE (rs := [.gone]) (zgs (zsw gt kk info n) (lo := 0) (hi := n) 0 (by rw [hE]; rfl) rfl (Nat.zero_le _) (by omega) fun h w hf => zit rfl (by kernel_rfl) rfl rfl rfl (by have := hf.cap; omega)) rfl rfl)) ?_
 rw [ze7]
 conv => whnf
 exact zaZ [(0, 7)] [0] (.inl rfl) trivial rfl ⟨.inl rfl, trivial⟩
theorem zDb {kk : List Nat} (h32 : kk.length = 32) (hX : ∀ k ∈ X, k < w.heap.size) (hq : St (TxQ kk q) w X) : Ct Tryz.prog 94 [.slice q.1 kk.length q.2] X w (.a (.agg [.key kk])) [] [] := by
 refine vFn (k0 := 1) (rs := [.cell 2 23]) (svs := [.a (.s (.p (.hd 0 kk.length)))]) (R0 := [.sl 0 kk.length (TxG kk)]) (hnQ [q]) Tryz.ntmps94 Tryz.func94 rfl rfl rfl rfl rfl zan (by kernel_rfl) hX (fun r hr => by rcases List.mem_singleton.1 hr with rfl; exact hq) ?_
 conv => whnf
 refine ⟨Nat × List Nat, fun k l m R g => ⟨k, (5, zaD .i64 g.1) :: za2 [0, 2, 3] l, (2, .blk [.key g.2] 23) :: m, R⟩, fun g => g.1 ≤ 32 ∧ g.2 = kk.take g.1, fun g => 32 - g.1, ⟨(0, []), [], [0], ⟨Nat.zero_le _, rfl⟩, za3⟩, fun g hg => ?_⟩
 obtain ⟨i, k2⟩ := g
 obtain ⟨hi, hk2⟩ : i ≤ 32 ∧ k2 = kk.take i := hg
 have hk2l : k2.length = i := by rw [hk2, List.length_take]; omega
 conv => whnf
 refine vIf (fun hc => ?_) fun hc => ?_
 ·have hi2 : i < 32 := by
   have : (i : Int) < 32 := of_decide_eq_true hc
   omega
  obtain ⟨b, hb⟩ : ∃ b, kk[i]? = some b := ⟨_, jP (by omega)⟩
  conv => whnf
  refine .inl ?_
  conv => whnf
  refine vT (decide_eq_true (by show (i : Int) < ((kk.length : Nat) : Int); omega)) ?_
  conv => whnf
  refine ⟨i, ⟨rfl, by omega, by omega⟩, ?_⟩
  conv => whnf
  refine zb4 (zeC 0 hb rfl rfl rfl (by kernel_rfl)) rfl rfl ?_
  conv => whnf
  refine ⟨i, ⟨rfl, by omega⟩, .inr ?_⟩
  conv => whnf
  refine zaH (ziK (cs := [.key k2]) (cs' := [.key (k2 ++ [b])]) rfl rfl rfl rfl rfl (by kernel_rfl) (by show 0 + i * 1 < 32; omega) fun h => zff (kk := k2) (b := b) (j := 0 + i * 1) (by omega) (by omega)) ?_
  conv => whnf
  refine zc2 (by omega) (by omega) ?_
  conv => whnf
  exact ⟨(i + 1, k2 ++ [b]), [], [0], ⟨⟨hi2, by show k2 ++ [b] = _; rw [hk2, List.take_add_one, hb]; rfl⟩, Nat.sub_lt_sub_left hi2 (Nat.lt_succ_self i)⟩, za3⟩
 have hi8 : k2 = kk := by
   have : ¬ (i : Int) < 32 := of_decide_eq_false hc
   rw [hk2, List.take_of_length_le (by omega)]
 subst hi8
 conv => whnf
 exact zav rfl
theorem zj9 {s : ByteArray} {kk lab : List Nat} {ts : List (List Nat)} (hs : s.data.toList.map UInt8.toNat = lab) (hlab : lab.length ≤ 100) (hk32 : kk.length = 32) (hkb : ∀ x ∈ kk, x < 256) (hts : zj8 ts) (hX : ∀ k ∈ X, k < w.heap.size) (hL : St (SlQ zay ts q) w X) (hG : St (zbH gt 0) w X) : Ct Tryz.prog 60 [.agg (ca [.key kk]), .string s, .slice q.1 ts.length q.2] X w (.tup [.agg [.key (zer gt kk lab ts)], .s (.p (.v (.int .i64 0)))]) [] [] := by
 have hst := hts.1
 have hsl := zhg ts hts.2
 have hs2 : (zcC [zmO, lab]).length = 11 + lab.length := by
  show ((beL 2 zmO.length ++ zmO) ++ ((beL 2 lab.length ++ lab) ++ [])).length = _
  rw [jQ, jQ, jQ, jQ, zdH, zdH]
  show 2 + 7 + (2 + lab.length + 0) = _
  omega
 have hln : (zcC [zmO, lab] ++ zcC ts).length ≤ 1048576 := by rw [jQ]; omega
 refine vFn (k0 := 1) (rs := [.cell 6 23, .tmp 7]) (svs := [.a (.agg [.key kk]), zgW (.string s), .a (.s (.p (.hd 0 ts.length)))]) (R0 := [.sl 0 ts.length (SlF zay ts), .c (zbH gt 0)]) (hnQ [q]) Tryz.ntmps60 Tryz.func60 rfl rfl rfl rfl rfl zan (by kernel_rfl) hX (fun r hr => by
  rcases List.mem_cons.1 hr with rfl | hr
  ·exact hL
  ·rcases List.mem_singleton.1 hr with rfl; exact hG) ?_
 conv => whnf
 refine zaH (ze4 (i := 3) (n := 7) (e := 5) rfl rfl rfl (by kernel_rfl) (by kernel_rfl)) ?_
 conv => whnf
 refine zbO (zqV (e := 5) lab rfl rfl (by kernel_rfl) (by kernel_rfl) (by kernel_rfl) hs (by omega)) rfl rfl ?_
 conv => whnf
 refine zaT (zqU (e := 72) (xs := [zmO, lab]) (ys := ts) (r := 2) (by_ := 24) (fun h => [(some ⟨h.b 3, 0, none⟩, 7), h.r 4]) rfl (fun h => by rfl) (fun h => rfl) (fun h X w H t x hx => by
  match t with
  | 0 => obtain rfl := Option.some.inj hx; exact zfp (H.fact 1 rfl) rfl (jV _) (by decide) (by decide)
  | 1 => obtain rfl := Option.some.inj hx; exact zeB (H.fact 0 rfl)
  | t + 2 => simp at hx) rfl rfl rfl rfl rfl ⟨by kernel_rfl, by kernel_rfl⟩ (by simp; omega) (by simp; omega) rfl rfl) ?_
 conv => whnf
 obtain ⟨t2, ht2⟩ : ∃ t2, t2 = [] ++ zcC ([zmO, lab] ++ ts) := ⟨_, rfl⟩
 have ht2e : t2 = zcC [zmO, lab] ++ zcC ts := by
  rw [ht2, List.nil_append]
  unfold zcC
  rw [List.flatMap_append]
 refine zaT (znv (T := zay) (zs := [zmO, lab] ++ ts) 6 rfl (.head _) rfl (zaE (sv := .tup [.s (.p (.hd 7 t2.length)), .s (.p (.v (.int .i64 0)))]) (rs := [.gone]) (Rs := [.sl 7 t2.length (TxG t2)]) (zab (sv := .tup [.s (.p (.hd 0 t2.length)), .s (.p (.v (.int .i64 0)))]) (rs := [.gone]) (Rs := [.sl 0 t2.length (TxG t2)]) rfl rfl rfl (by kernel_rfl) rfl fun h X w H => by
  have := zzu (m0 := []) (ts := [zmO, lab] ++ ts) (q := (none, 0)) (q2 := h.r 6) (fun t ht => (List.mem_append.1 ht).elim (fun h => zwi hlab t h) fun h => zox hts t h) (by simp) (by simp; omega) H.xk zkL (H.fact 0 rfl)
  rw [← ht2] at this
  exact this) rfl rfl)) ?_
 conv => whnf
 refine zae (sv := .tup [.s (.p (.hd 0 32)), .s (.p (.v (.int .i64 0)))]) (rs := [.gone]) rfl rfl rfl (by kernel_rfl) (fun h X w H => zs1 (n := 32) hk32 hkb (by decide) (by decide) (by rw [ht2e]; exact hln) H.xk (H.fact 0 rfl) (H.fact 6 rfl)) rfl rfl rfl ?_
 conv => whnf
 refine zae rfl rfl rfl (by kernel_rfl) (fun h X w H => by
  have := zDb (kk := zsw gt kk t2 32) (q := h.r 8) (ze7 _ _ _ _) H.xk (H.fact 0 rfl)
  rw [ze7] at this
  exact this) rfl rfl rfl ?_
 conv => whnf
 refine zav ?_
 rw [ht2e, zr3]
 rfl
end
end
section
open Go.RowKit
section
variable {x y : Nat} {i j : Int} {A : Int → Prop}
theorem zaJ (hi : i = (x : Int)) (hj : j = (y : Int)) (hb : x + y < 18446744073709551616) (h : A ((x + y : Nat) : Int)) : ∃ z, IntKind.u64.wrap (i + j) = z ∧ A z := ⟨_, by subst hi hj; rw [← Int.natCast_add]; exact zw6 (by omega) (by omega), h⟩
theorem zsJ (hi : i = (x : Int)) (hj : j = (y : Int)) (hb : y ≤ x) (hx : x < 18446744073709551616) (h : A ((x - y : Nat) : Int)) : ∃ z, IntKind.u64.wrap (i - j) = z ∧ A z := ⟨_, by subst hi hj; rw [show (x : Int) - (y : Int) = ((x - y : Nat) : Int) by omega]; exact zw6 (by omega) (by omega), h⟩
theorem zmJ (hi : i = (x : Int)) (hj : j = (y : Int)) (hb : x * y < 18446744073709551616) (h : A ((x * y : Nat) : Int)) : ∃ z, IntKind.u64.wrap (i * j) = z ∧ A z := ⟨_, by subst hi hj; rw [← Int.natCast_mul]; exact zw6 (by omega) (by omega), h⟩
end
section
variable {X : List Nat} {w : World}
theorem zFO {i : Nat} (hi : i < 16) (hX : ∀ k ∈ X, k < w.heap.size) : Ct Tryz.prog 189 [.int .i64 i] X w (zaD .u64 ((zai pN i : Nat) : Int)) [] [] := by
 rw [zEw i hi]
 refine vFn (k0 := 0) (rs := [.tmp 2]) (svs := [zaD .i64 i]) (R0 := []) (hnQ []) Tryz.ntmps189 Tryz.func189 rfl rfl rfl rfl rfl zan (by kernel_rfl) hX (fun r hr => by cases hr) ?_
 conv => whnf
 refine vIf (fun hc => ?_) fun hc => ?_
 ·obtain rfl : i = 0 := by have := eq_of_beq hc; omega
  conv => whnf
  exact zav rfl
 have h0 : i ≠ 0 := fun e => by subst e; cases hc
 rw [if_neg h0]
 conv => whnf
 refine vIf (fun hc => ?_) fun hc => ?_
 ·obtain rfl : i = 15 := by have := eq_of_beq hc; omega
  conv => whnf
  exact zav rfl
 have h15 : i ≠ 15 := fun e => by subst e; cases hc
 rw [if_neg h15]
 conv => whnf
 exact zav rfl
theorem zws {v p i : Nat} (h : v / 2 ^ (16 * (i + 1)) = p / 2 ^ (16 * (i + 1))) (hne : zai v i ≠ zai p i) : decide ((zai v i : Int) < (zai p i : Int)) = decide (v < p) := by
 rw [zvf v p i h hne]
 exact decide_eq_decide.2 (by omega)
theorem zr5 {v : Nat} (hv : v < 2 ^ 256) (hX : ∀ k ∈ X, k < w.heap.size) : Ct Tryz.prog 188 [.agg (ca [.row 16 (uw (zai v))])] X w (zbD (decide (v < pN))) [] [] := by
 have hv0 : v / 2 ^ (16 * 16) = pN / 2 ^ (16 * 16) := by rw [Nat.div_eq_of_lt hv, Nat.div_eq_of_lt (by unfold pN; decide +kernel)]
 refine vFn (k0 := 0) (rs := [.tmp 2]) (svs := [.a (.agg [.row 16 (uw (zai v))])]) (R0 := []) (hnQ []) Tryz.ntmps188 Tryz.func188 rfl rfl rfl rfl rfl zan (by kernel_rfl) hX (fun r hr => by cases hr) ?_
 conv => whnf
 refine ⟨Nat, fun k l m R n => ⟨k, (3, zaD .i64 ((n : Int) - 1)) :: za2 [1, 2] l, m, R⟩, fun n => n ≤ 16 ∧ v / 2 ^ (16 * n) = pN / 2 ^ (16 * n), fun n => n, ⟨16, [], [], ⟨jV _, hv0⟩, za3⟩, fun n hg => ?_⟩
 obtain ⟨hn, heq⟩ := hg
 conv => whnf
 refine vIf (fun hc => ?_) fun hc => ?_
 ·obtain ⟨k, rfl⟩ : ∃ k, n = k + 1 := ⟨n - 1, by
   have : (n : Int) - 1 ≥ 0 := of_decide_eq_true hc
   omega⟩
  have ek : ((k + 1 : Nat) : Int) - 1 = (k : Int) := by omega
  rw [ek]
  conv => whnf
  refine zaK 5 [] (by kernel_rfl) ?_
  conv => whnf
  refine ⟨k, ⟨rfl, by omega⟩, .inr ?_⟩
  conv => whnf
  refine ⟨by omega, ?_⟩
  conv => whnf
  refine zaA (zab (rs := []) (Rs := []) rfl rfl rfl (by kernel_rfl) rfl fun h X w H => zFO (by omega) H.xk) ?_
  conv => whnf
  refine vIf (fun hc => ?_) fun hc => ?_
  ·have hne : zai v k ≠ zai pN k := fun e => by rw [e] at hc; simp at hc
   conv => whnf
   refine zaK 5 [] (by kernel_rfl) ?_
   conv => whnf
   refine ⟨k, ⟨rfl, by omega⟩, .inr ?_⟩
   conv => whnf
   refine ⟨by omega, ?_⟩
   conv => whnf
   refine zaA (zab (rs := []) (Rs := []) rfl rfl rfl (by kernel_rfl) rfl fun h X w H => zFO (by omega) H.xk) ?_
   conv => whnf
   refine vIf (fun hc2 => ?_) fun hc2 => ?_ <;> (conv => whnf) <;> refine zav ?_ <;> rw [← zws heq hne] <;> exact congrArg zbD hc2.symm
  ·have he : zai v k = zai pN k := by
    have : ¬ (((zai v k : Nat) : Int) ≠ ((zai pN k : Nat) : Int)) := by simpa using hc
    omega
   conv => whnf
   refine zc2 (by omega) (by omega) ?_
   conv => whnf
   exact ⟨k, [], [], ⟨⟨by omega, by rw [zq9 v k, zq9 pN k, heq, he]⟩, Nat.lt_succ_self k⟩, za3⟩
 ·obtain rfl : n = 0 := by
   have : ¬ (n : Int) - 1 ≥ 0 := of_decide_eq_false hc
   omega
  conv => whnf
  refine zav ?_
  have : v = pN := by simpa using heq
  rw [this, decide_eq_false (Nat.lt_irrefl _)]
  rfl
theorem zDc {n : Nat} {f g : Nat → Value} (h : ∀ i, i < n → f i = g i) : ca [.row n f] = ca [.row n g] := zjM (by
 simp only [cl, Chunk.cells, List.append_nil]
 exact List.map_congr_left fun i hi => by rw [Nat.zero_add]; exact h i (List.mem_range.1 hi))
theorem zpU {n : Nat} {f g : Nat → Nat} (h : ∀ i, i < n → f i = g i) : ca [.row n (uw f)] = ca [.row n (uw g)] := zDc fun i hi => by unfold uw; rw [h i hi]
theorem zDd {X G : List Nat} {w0 : World} {Rr : Ending → World → Prop} {k : Nat} {sv : SV} {m : MB} {R : List SF} (sv' : SV) (he : ∀ h : Hn, sv'.den h = sv.den h) (hw : sv'.wf (lt_ k) = true) (hk : RetOk X G w0 Rr k sv' m R) : RetOk X G w0 Rr k sv m R := ⟨fun h w ws wm wr H hX => by
 have := hk.ok h w hw wm wr H hX
 rw [he] at this
 exact this⟩
def zwt (X : Nat → Nat) (m : MB) : MB := (2, .blk [.row 16 (uw X)] 181) :: m
def zhh (f g : Nat → Nat) (m i : Nat) : Nat := if i < m then f i else g i
theorem zzx (f g : Nat → Nat) (m : Nat) (i : Nat) : zhh f g (m + 1) i = if i = m then f m else zhh f g m i := by
 unfold zhh
 by_cases h : i = m
 ·subst h; rw [if_pos (by omega), if_pos rfl]
 ·rw [if_neg h]
  by_cases h2 : i < m
  ·rw [if_pos h2, if_pos (by omega)]
  ·rw [if_neg h2, if_neg (by omega)]
theorem zgN {f g : Nat → Nat} {n : Nat} {v : Int} (hv : v = ((f n : Nat) : Int)) (u : Nat) : upd (uw (zhh f g n)) n (.int .u64 v) u = uw (zhh f g (n + 1)) u := by
 subst hv
 unfold upd uw
 rw [zzx]
 split <;> rfl
theorem zmG {f g : Nat → Nat} {n i : Nat} (h : i < n) : zhh f g n i = f i := if_pos h
theorem zpV {f g : Nat → Nat} {n i : Nat} (h : n ≤ i) : zhh f g n i = g i := if_neg (by omega)
def zzy (L : Nat → Nat) (g : (Nat → Nat) × Nat) : Prop := (∀ i, i < 16 → g.1 i < 70368744177664) ∧ zaP g.1 16 % pN = zaP L 32 % pN ∧ (g.2 = 0 → ∀ i, i < 16 → g.1 i < 65536)
theorem zs2 {L : Nat → Nat} (hL : ∀ i, i < 32 → L i < 1099511627776) (g : Nat → Nat) : zzy L (zhh (fun i => L i + 38 * L (16 + i)) g 16, 1) := by
 obtain ⟨F, hF⟩ : ∃ F : Nat → Nat, F = fun i => L i + 38 * L (16 + i) := ⟨_, rfl⟩
 rw [← hF]
 refine ⟨fun i hi => ?_, ?_, fun h => by cases h⟩
 ·have h1 := hL i (by omega)
  have h2 := hL (16 + i) (by omega)
  show zhh F g 16 i < _
  rw [zmG hi, hF]
  show L i + 38 * L (16 + i) < _
  omega
 ·show zaP (zhh F g 16) 16 % pN = _
  rw [zcc _ F 16 fun i hi => zmG hi, hF]
  exact zsz L
theorem zwu {L : Nat → Nat} {g : (Nat → Nat) × Nat} (h : zzy L g) (hz : g.2 ≠ 0) (X : Nat → Nat) (hX : ∀ i, i < 16 → X i = zhJ g.1 i) : zzy L (X, ovR g.1 16) ∧ (if ovR g.1 16 = 0 then 0 else zaP X 16 + 1) < (if g.2 = 0 then 0 else zaP g.1 16 + 1) := by
 obtain ⟨h1, h2, h3⟩ := h
 have hv := zcc X (zhJ g.1) 16 hX
 have hp := zq8 g.1
 refine ⟨⟨fun i hi => by show X i < _; rw [hX i hi]; exact zBK g.1 h1 i hi, ?_, fun h i hi => by show X i < _; rw [hX i hi]; exact zve g.1 h i⟩, ?_⟩
 ·show zaP X 16 % pN = _
  rw [hv, ← h2, ← zq8 g.1, Nat.mul_left_comm, Nat.mul_comm, Nat.add_mul_mod_self_right]
 ·rw [if_neg hz, hv]
  have h5 := zrz
  split
  ·omega
  ·rename_i h6
   have : 1 ≤ ovR g.1 16 * (pN * 2) := Nat.mul_pos (by omega) (by omega)
   omega
theorem zmH {L : Nat → Nat} (hL : ∀ i, i < 32 → L i < 1099511627776) {v : Nat} (hv : zaP L 32 = v) (hX : ∀ k ∈ X, k < w.heap.size) : Ct Tryz.prog 169 [.agg (ca [.row 32 (uw L)])] X w (.a (.agg [.row 16 (uw (zai (v % pN)))])) [] [] := by
 subst hv
 refine vFn (k0 := 0) (rs := [.cell 2 181]) (svs := [.a (.agg [.row 32 (uw L)])]) (R0 := []) (hnQ []) Tryz.ntmps169 Tryz.func169 rfl rfl rfl rfl rfl zan (by kernel_rfl) hX (fun r hr => by cases hr) ?_
 conv => whnf
 refine ⟨Nat, fun k l m R n => ⟨k, (10, zaD .i64 n) :: za2 [1, 2, 3] l, zwt (zhh (fun i => L i + 38 * L (16 + i)) (fun _ => 0) n) m, R⟩, fun n => n ≤ 16, fun n => 16 - n, ⟨0, [], [], Nat.zero_le _, za3⟩, fun n hn => ?_⟩
 conv => whnf
 refine vIf (fun hc => ?_) fun hc => ?_
 ·have hn2 : n < 16 := by
   have : (n : Int) < 16 := of_decide_eq_true hc
   omega
  have b0 := hL n (by omega)
  have b1 := hL (16 + n) (by omega)
  conv => whnf
  refine zaK 10 [] (by kernel_rfl) ?_
  conv => whnf
  refine ⟨n, ⟨rfl, by omega⟩, .inr ?_⟩
  conv => whnf
  refine ⟨by omega, ?_⟩
  conv => whnf
  refine zbi (show (16 : Int) + (n : Int) = ((16 + n : Nat) : Int) by omega) (by omega) (by omega) ?_
  conv => whnf
  refine ⟨16 + n, ⟨rfl, by omega⟩, .inr ?_⟩
  conv => whnf
  refine ⟨by omega, ?_⟩
  conv => whnf
  refine zmJ (x := 38) (y := L (16 + n)) rfl rfl (by omega) ?_
  conv => whnf
  refine zaJ (x := L n) (y := 38 * L (16 + n)) rfl rfl (by omega) ?_
  conv => whnf
  refine ⟨n, ⟨rfl, by omega⟩, .inr ?_⟩
  conv => whnf
  refine zaH (zkQ (uw (zhh (fun i => L i + 38 * L (16 + i)) (fun _ => 0) (n + 1))) rfl rfl rfl rfl rfl rfl hn2 (zgN rfl)) ?_
  conv => whnf
  refine zc2 (by omega) (by omega) ?_
  conv => whnf
  exact ⟨n + 1, [], [], ⟨hn2, Nat.sub_lt_sub_left hn2 (Nat.lt_succ_self n)⟩, za3⟩
 have hn16 : n = 16 := by
   have : ¬ (n : Int) < 16 := of_decide_eq_false hc
   omega
 subst hn16
 conv => whnf
 refine ⟨(Nat → Nat) × Nat, fun k l m R g => ⟨k, (5, zaD .u64 g.2) :: za2 [2, 3] l, zwt g.1 m, R⟩, zzy L, fun g => if g.2 = 0 then 0 else zaP g.1 16 + 1, ⟨(_, 1), [], [], zs2 hL (fun _ => 0), za3⟩, fun g hg => ?_⟩
 obtain ⟨Y, ov⟩ := g
 conv => whnf
 refine vIf (fun hc => ?_) fun hc => ?_
 ·have hz : ov ≠ 0 := fun e => by subst e; cases hc
  have hYb := hg.1
  conv => whnf
  refine ⟨Nat, fun k l m R n => ⟨k, (27, zaD .i64 n) :: (5, zaD .u64 ((ovR Y n : Nat) : Int)) :: za2 [2, 3] l, zwt (zhh (loR Y) Y n) m, R⟩, fun n => n ≤ 16, fun n => 16 - n, ⟨0, [], [], Nat.zero_le _, za3⟩, fun n hn => ?_⟩
  have ob := zvd Y hYb n hn
  conv => whnf
  refine vIf (fun hc => ?_) fun hc => ?_
  ·have hn2 : n < 16 := by
    have : (n : Int) < 16 := of_decide_eq_true hc
    omega
   have hyn : Y n < 70368744177664 := hYb n hn2
   conv => whnf
   refine ⟨n, ⟨rfl, by omega⟩, .inr ?_⟩
   conv => whnf
   refine ⟨hn2, ?_⟩
   conv => whnf
   refine zaJ (x := ovR Y n) (y := zhh (loR Y) Y n n) rfl rfl (by rw [zpV (jV n)]; omega) ?_
   rw [zpV (jV n), Nat.add_comm (ovR Y n)]
   conv => whnf
   refine ziM (c := 65536) rfl (by decide) ?_
   conv => whnf
   refine ⟨n, ⟨rfl, by omega⟩, .inr ?_⟩
   conv => whnf
   refine zaH (zkQ (uw (zhh (loR Y) Y (n + 1))) rfl rfl rfl rfl rfl rfl hn2 (zgN rfl)) ?_
   conv => whnf
   refine zwj (c := 65536) rfl (by decide) (by omega) ?_
   conv => whnf
   refine zc2 (by omega) (by omega) ?_
   conv => whnf
   exact ⟨n + 1, [], [], ⟨hn2, Nat.sub_lt_sub_left hn2 (Nat.lt_succ_self n)⟩, za3⟩
  have hn16 : n = 16 := by
    have : ¬ (n : Int) < 16 := of_decide_eq_false hc
    omega
  subst hn16
  obtain ⟨Z, hZ⟩ : ∃ Z, Z = zhh (loR Y) Y 16 := ⟨_, rfl⟩
  have hZi : ∀ i, i < 16 → Z i = loR Y i := fun i hi => by rw [hZ, zmG hi]
  have hZ0 : Z 0 < 65536 := by rw [hZi 0 (by decide)]; exact znO Y 0
  rw [← hZ]
  conv => whnf
  refine ⟨0, ⟨rfl, by omega⟩, .inr ?_⟩
  conv => whnf
  refine ⟨by decide, ?_⟩
  conv => whnf
  refine zmJ (x := 38) (y := ovR Y 16) rfl rfl (by omega) ?_
  conv => whnf
  refine zaJ (x := Z 0) (y := 38 * ovR Y 16) rfl rfl (by omega) ?_
  conv => whnf
  refine ⟨0, ⟨rfl, by omega⟩, .inr ?_⟩
  conv => whnf
  refine zaH (zkQ (uw fun i => if i = 0 then Z 0 + 38 * ovR Y 16 else Z i) rfl rfl rfl rfl rfl rfl (by decide) (fun i => by by_cases h : i = 0 <;> simp [upd, uw, h])) ?_
  conv => whnf
  have hnx := zwu hg hz (fun i => if i = 0 then Z 0 + 38 * ovR Y 16 else Z i) fun i hi => by
   unfold zhJ
   by_cases h : i = 0
   ·rw [if_pos h, if_pos h, hZi 0 (by decide)]
   ·rw [if_neg h, if_neg h, hZi i hi]
  exact ⟨(fun i => if i = 0 then Z 0 + 38 * ovR Y 16 else Z i, ovR Y 16), [], [], hnx, za3⟩
 have hz : ov = 0 := by
   have : ¬ (ov : Int) > 0 := of_decide_eq_false hc
   omega
 subst hz
 conv => whnf
 obtain ⟨V, hV⟩ : ∃ V, V = zaP Y 16 := ⟨_, rfl⟩
 have hV256 : V < 2 ^ 256 := by rw [hV]; exact zk8 Y 16 (hg.2.2 rfl)
 have hVp : V % pN = zaP L 32 % pN := by rw [hV]; exact hg.2.1
 have hVi : ∀ i, i < 16 → Y i = zai V i := fun i hi => by rw [hV, zys Y 16 (hg.2.2 rfl) i hi]
 refine ⟨(Nat → Nat) × Nat, fun k l m R g => ⟨k, za2 [2, 3] l, zwt g.1 m, R⟩, fun g => g.2 < 2 ^ 256 ∧ g.2 % pN = zaP L 32 % pN ∧ ∀ i, i < 16 → g.1 i = zai g.2 i, fun g => g.2, ⟨(Y, V), [], [], ⟨hV256, hVp, hVi⟩, za3⟩, fun g hg => ?_⟩
 clear hV hV256 hVp hVi
 obtain ⟨Z, V⟩ := g
 obtain ⟨hV, hVp, hVi⟩ : V < 2 ^ 256 ∧ V % pN = zaP L 32 % pN ∧ ∀ i, i < 16 → Z i = zai V i := hg
 conv => whnf
 by_cases hp : V < pN
 ·refine zae rfl rfl rfl (by kernel_rfl) (fun h X w H => by
   have := zr5 hV H.xk
   rw [decide_eq_true hp, ← zpU hVi] at this
   exact this) rfl rfl rfl ?_
  conv => whnf
  refine ⟨fun _ _ => rfl, ?_⟩
  conv => whnf
  refine zDd (.a (.agg [.row 16 (uw (zai (zaP L 32 % pN)))])) (fun h => congrArg Value.agg (zpU fun i hi => ?_)) rfl (zav rfl)
  rw [← hVp, Nat.mod_eq_of_lt hp]
  exact (hVi i hi).symm
 have hle : pN ≤ V := Nat.le_of_not_lt hp
 refine zae rfl rfl rfl (by kernel_rfl) (fun h X w H => by
  have := zr5 hV H.xk
  rw [decide_eq_false hp, ← zpU hVi] at this
  exact this) rfl rfl rfl ?_
 conv => whnf
 refine ⟨Nat, fun k l m R n => ⟨k, (51, zaD .i64 n) :: (7, zaD .u64 ((boN V pN n : Nat) : Int)) :: za2 [2, 3] l, zwt (zhh (zai (V - pN)) Z n) m, R⟩, fun n => n ≤ 16, fun n => 16 - n, ⟨0, [], [], Nat.zero_le _, za3⟩, fun n hn => ?_⟩
 conv => whnf
 refine vIf (fun hc => ?_) fun hc => ?_
 ·have hn2 : n < 16 := by
   have : (n : Int) < 16 := of_decide_eq_true hc
   omega
  have hx : zhh (zai (V - pN)) Z n n = zai V n := by rw [zpV (jV n), hVi n hn2]
  have pv := zb0 V n
  have pp := zb0 pN n
  have ub : boN V pN n ≤ 1 := by unfold boN; split <;> omega
  have ss := zra V pN n hle
  conv => whnf
  refine zaK 8 [] (by kernel_rfl) ?_
  conv => whnf
  refine ⟨n, ⟨rfl, by omega⟩, .inr ?_⟩
  conv => whnf
  refine ⟨hn2, ?_⟩
  conv => whnf
  refine zaJ (x := 65536) (y := zhh (zai (V - pN)) Z n n) rfl rfl (by rw [hx]; omega) ?_
  rw [hx]
  conv => whnf
  refine zaA (zab (rs := []) (Rs := []) rfl rfl rfl (by kernel_rfl) rfl fun h X w H => zFO hn2 H.xk) ?_
  conv => whnf
  refine zsJ (x := 65536 + zai V n) (y := zai pN n) rfl rfl (by omega) (by omega) ?_
  conv => whnf
  refine zsJ (x := 65536 + zai V n - zai pN n) (y := boN V pN n) rfl rfl (by omega) (by omega) ?_
  conv => whnf
  refine ziM (c := 65536) rfl (by decide) ?_
  conv => whnf
  refine ⟨n, ⟨rfl, by omega⟩, .inr ?_⟩
  conv => whnf
  refine zaH (zkQ (uw (zhh (zai (V - pN)) Z (n + 1))) rfl rfl rfl rfl rfl rfl hn2 (zgN (by rw [ss.1]))) ?_
  conv => whnf
  refine zwj (c := 65536) rfl (by decide) (by omega) ?_
  conv => whnf
  refine zsJ (x := 1) (y := (65536 + zai V n - zai pN n - boN V pN n) / 65536) rfl rfl (by omega) (by omega) ?_
  rw [ss.2]
  conv => whnf
  refine zc2 (by omega) (by omega) ?_
  conv => whnf
  exact ⟨n + 1, [], [], ⟨hn2, Nat.sub_lt_sub_left hn2 (Nat.lt_succ_self n)⟩, za3⟩
 have hn16 : n = 16 := by
   have : ¬ (n : Int) < 16 := of_decide_eq_false hc
   omega
 subst hn16
 conv => whnf
 have hp0 := zrz
 exact ⟨(zhh (zai (V - pN)) Z 16, V - pN), [], [], ⟨⟨Nat.lt_of_le_of_lt (Nat.sub_le _ _) hV, by show (V - pN) % pN = _; rw [← hVp, ← Nat.mod_eq_sub_mod hle], fun i hi => zmG hi⟩, Nat.sub_lt (jT hp0 hle) hp0⟩, za3⟩
end
end
section
open Go.RowKit
theorem zDe {A B : Nat → Nat} {i k : Nat} {v : Int} (hi : i < 16) (hk : k < 16) (hv : v = ((zhq A B (16 * i + k) (i + k) + A i * B k : Nat) : Int)) (u : Nat) : upd (uw (zhq A B (16 * i + k))) (i + k) (.int .u64 v) u = uw (zhq A B (16 * i + (k + 1))) u := by
 subst hv
 have e : zhq A B (16 * i + (k + 1)) u = zhq A B (16 * i + k) u + if i + k = u then A i * B k else 0 := by
  rw [← Nat.add_assoc, zjb, show (16 * i + k) / 16 = i from by omega, show (16 * i + k) % 16 = k from by omega]
 unfold upd uw
 rw [e]
 by_cases h : u = i + k
 ·subst h; rw [if_pos rfl, if_pos rfl]
 ·rw [if_neg h, if_neg (Ne.symm h), Nat.add_zero]
section
variable {X : List Nat} {w : World} {a b : Nat}
def lM (f : Nat → Nat) (m : MB) : MB := (3, .blk [.row 32 (uw f)] 210) :: m
theorem zDf (ha : a < 2 ^ 256) (hb : b < 2 ^ 256) (hX : ∀ k ∈ X, k < w.heap.size) : Ct Tryz.prog 171 [.agg (ca [.row 16 (uw (zai a))]), .agg (ca [.row 16 (uw (zai b))])] X w (.a (.agg [.row 16 (uw (zai ((a + b) % pN)))])) [] [] := by
 refine vFn (k0 := 0) (rs := [.cell 4 181]) (svs := [.a (.agg [.row 16 (uw (zai a))]), .a (.agg [.row 16 (uw (zai b))])]) (R0 := []) (hnQ []) Tryz.ntmps171 Tryz.func171 rfl rfl rfl rfl rfl zan (by kernel_rfl) hX (fun r hr => by cases hr) ?_
 conv => whnf
 refine ⟨Nat, fun k l m R n => ⟨k, (7, zaD .i64 n) :: za2 [2, 3, 4, 5] l, lM (zhh (fun i => zai a i + zai b i) (fun _ => 0) n) m, R⟩, fun n => n ≤ 16, fun n => 16 - n, ⟨0, [], [], Nat.zero_le _, za3⟩, fun n hn => ?_⟩
 conv => whnf
 refine vIf (fun hc => ?_) fun hc => ?_
 ·have hn2 : n < 16 := by
   have : (n : Int) < 16 := of_decide_eq_true hc
   omega
  have pv := zb0 a n
  have pp := zb0 b n
  conv => whnf
  refine zaK 8 [] (by kernel_rfl) ?_
  conv => whnf
  refine ⟨n, ⟨rfl, by omega⟩, .inr ?_⟩
  conv => whnf
  refine ⟨hn2, ?_⟩
  conv => whnf
  refine ⟨n, ⟨rfl, by omega⟩, .inr ?_⟩
  conv => whnf
  refine ⟨hn2, ?_⟩
  conv => whnf
  refine zaJ (x := zai a n) (y := zai b n) rfl rfl (by omega) ?_
  conv => whnf
  refine ⟨n, ⟨rfl, by omega⟩, .inr ?_⟩
  conv => whnf
  refine zaH (zkQ (uw (zhh (fun i => zai a i + zai b i) (fun _ => 0) (n + 1))) rfl rfl rfl rfl rfl rfl (by omega) (zgN rfl)) ?_
  conv => whnf
  refine zc2 (by omega) (by omega) ?_
  conv => whnf
  exact ⟨n + 1, [], [], ⟨hn2, Nat.sub_lt_sub_left hn2 (Nat.lt_succ_self n)⟩, za3⟩
 have hn16 : n = 16 := by
   have : ¬ (n : Int) < 16 := of_decide_eq_false hc
   omega
 subst hn16
 conv => whnf
 refine zae rfl rfl rfl (by kernel_rfl) (fun h X w H => zmH (L := zhh (fun i => zai a i + zai b i) (fun _ => 0) 16) (fun i _ => zvG a b i) (zrA a b ha hb) H.xk) rfl rfl rfl ?_
 conv => whnf
 refine ⟨fun _ _ => rfl, ?_⟩
 conv => whnf
 exact zav rfl
theorem zDg (ha : a < 2 ^ 256) (hb : b < pN) (hX : ∀ k ∈ X, k < w.heap.size) : Ct Tryz.prog 170 [.agg (ca [.row 16 (uw (zai a))]), .agg (ca [.row 16 (uw (zai b))])] X w (.a (.agg [.row 16 (uw (zai ((a + (pN - b)) % pN)))])) [] [] := by
 refine vFn (k0 := 0) (rs := [.cell 4 181]) (svs := [.a (.agg [.row 16 (uw (zai a))]), .a (.agg [.row 16 (uw (zai b))])]) (R0 := []) (hnQ []) Tryz.ntmps170 Tryz.func170 rfl rfl rfl rfl rfl zan (by kernel_rfl) hX (fun r hr => by cases hr) ?_
 conv => whnf
 refine ⟨Nat × Nat, fun k l m R g => ⟨k, (9, zaD .i64 g.1) :: (6, zaD .u64 g.2) :: za2 [2, 3, 4, 5] l, lM (zhh (fun i => zai a i + zai (pN - b) i) (fun _ => 0) g.1) m, R⟩, fun g => g.1 ≤ 16 ∧ g.2 = boN pN b g.1, fun g => 16 - g.1, ⟨(0, 0), [], [], ⟨Nat.zero_le _, (zBL _ _).symm⟩, za3⟩, fun g hg => ?_⟩
 obtain ⟨n, u⟩ := g
 obtain ⟨hn, hu⟩ : n ≤ 16 ∧ u = boN pN b n := hg
 subst hu
 conv => whnf
 refine vIf (fun hc => ?_) fun hc => ?_
 ·have hn2 : n < 16 := by
   have : (n : Int) < 16 := of_decide_eq_true hc
   omega
  have pv := zb0 b n
  have pp := zb0 pN n
  have pa := zb0 a n
  have ub : boN pN b n ≤ 1 := by unfold boN; split <;> omega
  have ss := zra pN b n (Nat.le_of_lt hb)
  conv => whnf
  refine zaK 8 [] (by kernel_rfl) ?_
  conv => whnf
  refine zaA (zab (rs := []) (Rs := []) rfl rfl rfl (by kernel_rfl) rfl fun h X w H => zFO hn2 H.xk) ?_
  conv => whnf
  refine zaJ (x := 65536) (y := zai pN n) rfl rfl (by omega) ?_
  conv => whnf
  refine ⟨n, ⟨rfl, by omega⟩, .inr ?_⟩
  conv => whnf
  refine ⟨hn2, ?_⟩
  conv => whnf
  refine zsJ (x := 65536 + zai pN n) (y := zai b n) rfl rfl (by omega) (by omega) ?_
  conv => whnf
  refine zsJ (x := 65536 + zai pN n - zai b n) (y := boN pN b n) rfl rfl (by omega) (by omega) ?_
  conv => whnf
  refine ⟨n, ⟨rfl, by omega⟩, .inr ?_⟩
  conv => whnf
  refine ⟨hn2, ?_⟩
  conv => whnf
  refine ziM (c := 65536) rfl (by decide) ?_
  conv => whnf
  refine zaJ (x := zai a n) (y := (65536 + zai pN n - zai b n - boN pN b n) % 65536) rfl rfl (by omega) ?_
  conv => whnf
  refine ⟨n, ⟨rfl, by omega⟩, .inr ?_⟩
  conv => whnf
  refine zaH (zkQ (uw (zhh (fun i => zai a i + zai (pN - b) i) (fun _ => 0) (n + 1))) rfl rfl rfl rfl rfl rfl (by omega) (zgN (by rw [ss.1]))) ?_
  conv => whnf
  refine zwj (c := 65536) rfl (by decide) (by omega) ?_
  conv => whnf
  refine zsJ (x := 1) (y := (65536 + zai pN n - zai b n - boN pN b n) / 65536) rfl rfl (by omega) (by omega) ?_
  rw [ss.2]
  conv => whnf
  refine zc2 (by omega) (by omega) ?_
  conv => whnf
  exact ⟨(n + 1, boN pN b (n + 1)), [], [], ⟨⟨hn2, rfl⟩, Nat.sub_lt_sub_left hn2 (Nat.lt_succ_self n)⟩, za3⟩
 have hn16 : n = 16 := by
   have : ¬ (n : Int) < 16 := of_decide_eq_false hc
   omega
 subst hn16
 conv => whnf
 refine zae rfl rfl rfl (by kernel_rfl) (fun h X w H => zmH (L := zhh (fun i => zai a i + zai (pN - b) i) (fun _ => 0) 16) (fun i _ => zvG a (pN - b) i) (zrA a (pN - b) ha (Nat.lt_of_le_of_lt (Nat.sub_le _ _) zyM)) H.xk) rfl rfl rfl ?_
 conv => whnf
 refine ⟨fun _ _ => rfl, ?_⟩
 conv => whnf
 exact zav rfl
theorem zpW (ha : a < 2 ^ 256) (hb : b < 2 ^ 256) (hX : ∀ k ∈ X, k < w.heap.size) : Ct Tryz.prog 143 [.agg (ca [.row 16 (uw (zai a))]), .agg (ca [.row 16 (uw (zai b))])] X w (.a (.agg [.row 16 (uw (zai (a * b % pN)))])) [] [] := by
 have hacc : ∀ n c, n ≤ 256 → zhq (zai a) (zai b) n c ≤ n * 4294836225 := fun n c hn => zvH _ _ (fun i _ => zb0 a i) (fun i _ => zb0 b i) c n hn
 refine vFn (k0 := 0) (rs := [.cell 4 181]) (svs := [.a (.agg [.row 16 (uw (zai a))]), .a (.agg [.row 16 (uw (zai b))])]) (R0 := []) (hnQ []) Tryz.ntmps143 Tryz.func143 rfl rfl rfl rfl rfl zan (by kernel_rfl) hX (fun r hr => by cases hr) ?_
 conv => whnf
 refine ⟨Nat, fun k l m R n => ⟨k, (11, zaD .i64 n) :: za2 [2, 3, 4, 5, 10] l, lM (zhq (zai a) (zai b) (16 * n)) m, R⟩, fun n => n ≤ 16, fun n => 16 - n, ⟨0, [], [], Nat.zero_le _, za3⟩, fun n hn => ?_⟩
 conv => whnf
 refine vIf (fun hc => ?_) fun hc => ?_
 ·have hn2 : n < 16 := by
   have : (n : Int) < 16 := of_decide_eq_true hc
   omega
  have pa := zb0 a n
  conv => whnf
  refine ⟨n, ⟨rfl, hn2⟩, ?_⟩
  conv => whnf
  refine ⟨Nat, fun k l m R j => ⟨k, (16, zaD .i64 j) :: za2 [2, 3, 4, 5, 6, 7, 10, 11, 15] l, lM (zhq (zai a) (zai b) (16 * n + j)) m, R⟩, fun j => j ≤ 16, fun j => 16 - j, ⟨0, [], [], Nat.zero_le _, za3⟩, fun j hj => ?_⟩
  conv => whnf
  refine vIf (fun hc => ?_) fun hc => ?_
  ·have hj2 : j < 16 := by
    have : (j : Int) < 16 := of_decide_eq_true hc
    omega
   have pb := zb0 b j
   have h1 : zai a n * zai b j ≤ 4294836225 := jU (Nat.mul_le_mul (show zai a n ≤ 65535 by omega) (show zai b j ≤ 65535 by omega)) (by decide)
   have h2 := hacc (16 * n + j) (n + j) (by omega)
   conv => whnf
   refine ⟨j, ⟨rfl, hj2⟩, ?_⟩
   conv => whnf
   refine zbi (show (n : Int) + (j : Int) = ((n + j : Nat) : Int) by omega) (by omega) (by omega) ?_
   conv => whnf
   refine ⟨n + j, ⟨rfl, by omega⟩, .inr ?_⟩
   conv => whnf
   refine ⟨by omega, ?_⟩
   conv => whnf
   refine zmJ (x := zai a n) (y := zai b j) rfl rfl (by omega) ?_
   conv => whnf
   refine zaJ (x := zhq (zai a) (zai b) (16 * n + j) (n + j)) (y := zai a n * zai b j) rfl rfl (by omega) ?_
   conv => whnf
   refine ⟨n + j, ⟨rfl, by omega⟩, .inr ?_⟩
   conv => whnf
   refine zaH (zkQ (uw (zhq (zai a) (zai b) (16 * n + (j + 1)))) rfl rfl rfl rfl rfl rfl (by omega) (zDe hn2 hj2 rfl)) ?_
   conv => whnf
   refine zc2 (by omega) (by omega) ?_
   conv => whnf
   exact ⟨j + 1, [], [], ⟨hj2, Nat.sub_lt_sub_left hj2 (Nat.lt_succ_self j)⟩, za3⟩
  have hj16 : j = 16 := by
    have : ¬ (j : Int) < 16 := of_decide_eq_false hc
    omega
  subst hj16
  conv => whnf
  refine zc2 (by omega) (by omega) ?_
  conv => whnf
  exact ⟨n + 1, [], [], ⟨hn2, Nat.sub_lt_sub_left hn2 (Nat.lt_succ_self n)⟩, za3⟩
 have hn16 : n = 16 := by
   have : ¬ (n : Int) < 16 := of_decide_eq_false hc
   omega
 subst hn16
 conv => whnf
 refine zae rfl rfl rfl (by kernel_rfl) (fun h X w H => zmH (L := zhq (zai a) (zai b) 256) (fun i _ => by have := hacc 256 i (jV _); omega) (zCg a b ha hb) H.xk) rfl rfl rfl ?_
 conv => whnf
 refine ⟨fun _ _ => rfl, ?_⟩
 conv => whnf
 exact zav rfl
def zAv (f : Nat → Nat) : Nat → List Nat
 | 0 => []
 | n + 1 => zAv f n ++ [f n]
theorem zr6 (f : Nat → Nat) : ∀ n, (zAv f n).length = n
 | 0 => rfl
 | n + 1 => by rw [zAv, jQ, zr6 f n]; rfl
theorem zwv (f : Nat → Nat) : ∀ n, zAv f n = (List.range n).map f
 | 0 => rfl
 | n + 1 => by rw [zAv, zwv f n, List.range_succ, List.map_append]; rfl
theorem zzz (f : Nat → Nat) : zAv f 32 = zmp f := zwv f 32
theorem zww {v : Nat} (hX : ∀ k ∈ X, k < w.heap.size) : Ct Tryz.prog 142 [.agg (ca [.row 16 (uw (zai v))])] X w (.a (.agg [.key (zmp (zaR v))])) [] [] := by
 refine vFn (k0 := 0) (rs := [.cell 2 23]) (svs := [.a (.agg [.row 16 (uw (zai v))])]) (R0 := []) (hnQ []) Tryz.ntmps142 Tryz.func142 rfl rfl rfl rfl rfl zan (by kernel_rfl) hX (fun r hr => by cases hr) ?_
 conv => whnf
 refine ⟨Nat × List Nat, fun k l m R g => ⟨k, (7, zaD .i64 g.1) :: za2 [1, 2, 3, 6] l, (2, .blk [.key g.2] 23) :: m, R⟩, fun g => g.1 ≤ 16 ∧ g.2 = zAv (zaR v) (2 * g.1), fun g => 16 - g.1, ⟨(0, []), [], [], ⟨Nat.zero_le _, rfl⟩, za3⟩, fun g hg => ?_⟩
 obtain ⟨n, kk⟩ := g
 obtain ⟨hn, hkk⟩ : n ≤ 16 ∧ kk = zAv (zaR v) (2 * n) := hg
 have hkl : kk.length = 2 * n := by rw [hkk, zr6]
 conv => whnf
 refine vIf (fun hc => ?_) fun hc => ?_
 ·have hn2 : n < 16 := by
   have : (n : Int) < 16 := of_decide_eq_true hc
   omega
  have pv := zb0 v n
  conv => whnf
  refine ⟨n, ⟨rfl, hn2⟩, ?_⟩
  conv => whnf
  refine zbi (show (2 : Int) * (n : Int) = ((2 * n : Nat) : Int) by omega) (by omega) (by omega) ?_
  conv => whnf
  refine ziM (c := 256) rfl (by decide) ?_
  rw [zrC]
  conv => whnf
  have hb1 : zaR v (2 * n) < 256 := by rw [← zrC]; omega
  have hb2 : zaR v (2 * n + 1) < 256 := by rw [← zob]; omega
  refine ⟨((zaR v (2 * n) : Nat) : Int), wU8 (by omega) (by omega), ?_⟩
  conv => whnf
  refine ⟨2 * n, ⟨rfl, by omega⟩, ?_⟩
  conv => whnf
  refine .inr ?_
  conv => whnf
  refine zaH (ziK (cs := [.key kk]) (cs' := [.key (kk ++ [zaR v (2 * n)])]) rfl rfl rfl rfl rfl (by kernel_rfl) (by show 0 + (2 * n) * 1 < 32; omega) fun h => zff (kk := kk) (b := zaR v (2 * n)) (j := 0 + (2 * n) * 1) (by omega) (by omega)) ?_
  conv => whnf
  refine zbi (show (2 : Int) * (n : Int) = ((2 * n : Nat) : Int) by omega) (by omega) (by omega) ?_
  conv => whnf
  refine zbi (z' := ((2 * n + 1 : Nat) : Int)) (show ((2 * n : Nat) : Int) + 1 = _ by omega) (by omega) (by omega) ?_
  conv => whnf
  refine zwj (c := 256) rfl (by decide) (by omega) ?_
  rw [zob]
  conv => whnf
  refine ⟨((zaR v (2 * n + 1) : Nat) : Int), wU8 (by omega) (by omega), ?_⟩
  conv => whnf
  refine ⟨2 * n + 1, ⟨rfl, by omega⟩, ?_⟩
  conv => whnf
  refine .inr ?_
  conv => whnf
  refine zaH (ziK (cs := [.key (kk ++ [zaR v (2 * n)])]) (cs' := [.key (kk ++ [zaR v (2 * n)] ++ [zaR v (2 * n + 1)])]) rfl rfl rfl rfl rfl (by kernel_rfl) (by show 0 + (2 * n + 1) * 1 < 32; omega) fun h => zff (kk := kk ++ [zaR v (2 * n)]) (b := zaR v (2 * n + 1)) (j := 0 + (2 * n + 1) * 1) (by simp; omega) (by simp; omega)) ?_
  conv => whnf
  refine zc2 (by omega) (by omega) ?_
  conv => whnf
  exact ⟨(n + 1, kk ++ [zaR v (2 * n)] ++ [zaR v (2 * n + 1)]), [], [], ⟨⟨hn2, by rw [hkk]; rfl⟩, Nat.sub_lt_sub_left hn2 (Nat.lt_succ_self n)⟩, za3⟩
 have hn16 : n = 16 := by
   have : ¬ (n : Int) < 16 := of_decide_eq_false hc
   omega
 subst hn16
 have hkf : kk = zmp (zaR v) := by rw [hkk]; exact zzz _
 subst hkf
 conv => whnf
 exact zav rfl
end
end
section
open Go.RowKit
def putL (L : Nat → Nat) (c t j : Nat) : Nat := L j + if c = j then t else 0
theorem zzA {L : Nat → Nat} {c t : Nat} {v : Int} (hv : v = ((L c + t : Nat) : Int)) (u : Nat) : upd (uw L) c (.int .u64 v) u = uw (putL L c t) u := by
 subst hv
 unfold upd uw putL
 by_cases h : u = c
 ·subst h; rw [if_pos rfl, if_pos rfl]
 ·rw [if_neg h, if_neg (Ne.symm h), Nat.add_zero]
def zhi (k : Nat → Nat) (i : Nat) : Nat := if i % 2 = 1 then 256 * zfR k i else zfR k i
theorem zzB (L k : Nat → Nat) (i : Nat) (hi : i < 32) (h : zaP L 32 = kvN (zfR k) i) : zaP (putL L (i / 2) (zhi k i)) 32 = kvN (zfR k) (i + 1) := by
 refine zCi L (i / 2) (zhi k i) _ (by omega) ?_
 rw [h, zdF]
 unfold zhi
 split
 ·rename_i ho
  rw [hi8 _ i ho]
 ·rw [show 8 * i = 16 * (i / 2) from by omega]
theorem zwx {k : Nat → Nat} (hk : ∀ i, i < 32 → k i < 256) (i : Nat) (hi : i < 32) : zfR k i < 256 := by
 have := hk i hi
 unfold zfR
 split <;> omega
theorem zGE {x c : Nat} {j : Int} {A : Int → Prop} (hc : j = (c : Int)) (h0 : c ≠ 0) (hx : x < 9223372036854775808) (h : A ((x / c : Nat) : Int)) : j ≠ 0 ∧ ∃ z, IntKind.i64.wrap ((x : Int).tdiv j) = z ∧ A z := ⟨by omega, _, by
 have : x / c ≤ x := Nat.div_le_self _ _
 rw [hc, ← Int.ofNat_tdiv]
 generalize x / c = y at this ⊢
 exact zw5 (by omega) (by omega), h⟩
section
variable {X : List Nat} {w : World} {a b : Nat}
theorem zDh {kk : List Nat} (hkb : ∀ x ∈ kk, x < 256) (hX : ∀ k ∈ X, k < w.heap.size) : Ct Tryz.prog 139 [.agg (ca [.key kk])] X w (.a (.agg [.row 16 (uw (zai (zj1 fun i => kk.getD i 0)))])) [] [] := by
 obtain ⟨K, hK⟩ : ∃ K : Nat → Nat, K = fun i => kk.getD i 0 := ⟨_, rfl⟩
 rw [← hK]
 have hKb : ∀ i, i < 32 → K i < 256 := fun i _ => by rw [hK]; exact zb2 hkb i
 refine vFn (k0 := 0) (rs := [.cell 2 181]) (svs := [.a (.agg [.key kk])]) (R0 := []) (hnQ []) Tryz.ntmps139 Tryz.func139 rfl rfl rfl rfl rfl zan (by kernel_rfl) hX (fun r hr => by cases hr) ?_
 conv => whnf
 refine ⟨Nat × (Nat → Nat), fun k l m R g => ⟨k, (8, zaD .i64 g.1) :: za2 [2, 3, 7] l, (2, .blk [.row 32 (uw g.2)] 210) :: m, R⟩, fun g => g.1 ≤ 32 ∧ (∀ c, g.2 c ≤ g.1 * 65280) ∧ zaP g.2 32 = kvN (zfR K) g.1, fun g => 32 - g.1, ⟨(0, fun _ => 0), [], [], ⟨Nat.zero_le _, fun _ => Nat.zero_le _, zhc _ (fun _ => rfl) 32⟩, za3⟩, fun g hg => ?_⟩
 obtain ⟨i, L⟩ := g
 obtain ⟨hi, hLl, hLv⟩ : i ≤ 32 ∧ (∀ c, L c ≤ i * 65280) ∧ zaP L 32 = kvN (zfR K) i := hg
 conv => whnf
 refine vIf (fun hc => ?_) fun hc => ?_
 ·have hi2 : i < 32 := by
   have : (i : Int) < 32 := of_decide_eq_true hc
   omega
  have hcb := zwx hKb i hi2
  have hLi := hLl (i / 2)
  have ht : zhi K i ≤ 65280 := by unfold zhi; split <;> omega
  have ki := hKb i hi2
  have hKi : kk.getD i 0 = K i := by rw [hK]
  conv => whnf
  refine ⟨i, ⟨rfl, hi2⟩, ?_⟩
  rw [hKi]
  conv => whnf
  refine zA9 (by omega) (by omega) ?_
  conv => whnf
  refine .inr ⟨Unit, fun k l m R _ => ⟨k, (6, zaD .u64 ((zfR K i : Nat) : Int)) :: za2 [2, 3, 4, 7, 8] l, m, R⟩, fun _ => True, ?_, fun _ _ => ?_⟩
  ·conv => whnf
   refine vIf (fun hc => ?_) fun hc => ?_
   ·have h31 : i = 31 := by have := eq_of_beq hc; omega
    conv => whnf
    refine ziM (c := 128) rfl (by decide) ?_
    rw [show K i % 128 = zfR K i by unfold zfR; rw [if_pos h31, h31]]
    conv => whnf
    exact ⟨(), [], [], trivial, za3⟩
   ·have h31 : i ≠ 31 := fun e => by subst e; cases hc
    rw [show K i = zfR K i by unfold zfR; rw [if_neg h31]]
    conv => whnf
    exact ⟨(), [], [], trivial, za3⟩
  conv => whnf
  refine .inr ⟨Unit, fun k l m R _ => ⟨k, (6, zaD .u64 ((zhi K i : Nat) : Int)) :: za2 [2, 3, 4, 7, 8] l, m, R⟩, fun _ => True, ?_, fun _ _ => ?_⟩
  ·conv => whnf
   refine ziM (c := 2) rfl (by decide) ?_
   conv => whnf
   refine vIf (fun hc => ?_) fun hc => ?_
   ·have ho : i % 2 = 1 := by have := eq_of_beq hc; omega
    conv => whnf
    refine zmJ (x := 256) (y := zfR K i) rfl rfl (by omega) ?_
    rw [show 256 * zfR K i = zhi K i by unfold zhi; rw [if_pos ho]]
    conv => whnf
    exact ⟨(), [], [], trivial, za3⟩
   ·have ho : i % 2 ≠ 1 := fun e => by rw [e] at hc; cases hc
    rw [show zfR K i = zhi K i by unfold zhi; rw [if_neg ho]]
    conv => whnf
    exact ⟨(), [], [], trivial, za3⟩
  conv => whnf
  refine zGE (c := 2) rfl (by decide) (by omega) ?_
  conv => whnf
  refine ⟨i / 2, ⟨rfl, by omega⟩, .inr ?_⟩
  conv => whnf
  refine ⟨by omega, ?_⟩
  conv => whnf
  refine zaJ (x := L (i / 2)) (y := zhi K i) rfl rfl (by omega) ?_
  conv => whnf
  refine ⟨i / 2, ⟨rfl, by omega⟩, .inr ?_⟩
  conv => whnf
  refine zaH (zkQ (uw (putL L (i / 2) (zhi K i))) rfl rfl rfl rfl rfl rfl (by omega) (zzA rfl)) ?_
  conv => whnf
  refine zc2 (by omega) (by omega) ?_
  conv => whnf
  refine ⟨(i + 1, putL L (i / 2) (zhi K i)), [], [], ⟨⟨hi2, fun c => ?_, zzB L K i hi2 hLv⟩, Nat.sub_lt_sub_left hi2 (Nat.lt_succ_self i)⟩, za3⟩
  have h1 := hLl c
  show putL L _ _ c ≤ (i + 1) * 65280
  rw [Nat.succ_mul]
  refine Nat.add_le_add h1 ?_
  split
  ·exact ht
  ·exact Nat.zero_le _
 have hi32 : i = 32 := by
   have : ¬ (i : Int) < 32 := of_decide_eq_false hc
   omega
 subst hi32
 conv => whnf
 refine zae rfl rfl rfl (by kernel_rfl) (fun h X w H => zmH (L := L) (fun c _ => by have := hLl c; omega) hLv H.xk) rfl rfl rfl ?_
 conv => whnf
 refine ⟨fun _ _ => rfl, ?_⟩
 conv => whnf
 exact zav rfl
theorem zwy (a : Nat) : zfS a 0 = 1 := rfl
attribute [local irreducible] zfS pN
theorem zs3 (ha : a < pN) (hX : ∀ k ∈ X, k < w.heap.size) : Ct Tryz.prog 144 [.agg (ca [.row 16 (uw (zai a))])] X w (.a (.agg [.row 16 (uw (zai (zfS a 255)))])) [] [] := by
 have hlt : ∀ k, zfS a k < 2 ^ 256 := fun k => Nat.lt_trans (zvJ a k) zyM
 refine vFn (k0 := 0) (rs := [.cell 2 181]) (svs := [.a (.agg [.row 16 (uw (zai a))])]) (R0 := []) (hnQ []) Tryz.ntmps144 Tryz.func144 rfl rfl rfl rfl rfl zan (by kernel_rfl) hX (fun r hr => by cases hr) ?_
 conv => whnf
 refine ⟨uw (zai 1), ⟨rfl, rfl, rfl, rfl, rfl, rfl, rfl, rfl, rfl, rfl, rfl, rfl, rfl, rfl, rfl, rfl, trivial⟩, ?_⟩
 conv => whnf
 refine ⟨fun _ _ => rfl, ?_⟩
 conv => whnf
 refine ⟨Nat × Nat, fun k l m R g => ⟨k, (4, zaD .i64 (254 - (g.1 : Int))) :: za2 [1, 2, 3] l, (2, .blk [.row 16 (uw (zai g.2))] 181) :: m, R⟩, fun g => g.1 ≤ 255 ∧ g.2 = zfS a g.1, fun g => 255 - g.1, ⟨(0, 1), [], [], ⟨Nat.zero_le _, (zwy a).symm⟩, za3⟩, fun g hg => ?_⟩
 obtain ⟨n, v⟩ := g
 obtain ⟨hn, hv⟩ : n ≤ 255 ∧ v = zfS a n := hg
 have hvl : v < 2 ^ 256 := by rw [hv]; exact hlt n
 conv => whnf
 refine vIf (fun hc => ?_) fun hc => ?_
 ·replace hc : decide ((254 : Int) - (n : Int) ≥ 0) = true := hc
  have hn2 : n < 255 := by
   have := of_decide_eq_true hc
   omega
  conv => whnf
  refine .inr ⟨Unit, fun k l m R _ => ⟨k, za2 [1, 2, 3, 4] l, (2, .blk [.row 16 (uw (zai (zfS a (n + 1))))] 181) :: m, R⟩, fun _ => True, ?_, fun _ _ => ?_⟩
  ·conv => whnf
   refine zae rfl rfl rfl (by kernel_rfl) (fun h X w H => zpW hvl hvl H.xk) rfl rfl rfl ?_
   conv => whnf
   refine ⟨fun _ _ => rfl, ?_⟩
   conv => whnf
   have hsq : zfS a n * zfS a n % pN < 2 ^ 256 := zvI _
   have same : n = 252 ∨ n = 250 → v * v % pN = zfS a (n + 1) := fun h => by rw [zgH, if_pos h, hv]
   refine vIf (fun hc => ?_) fun hc => ?_
   ·replace hc : ((254 : Int) - (n : Int) != 2) = true := hc
    have h2 := bne_iff_ne.1 hc
    conv => whnf
    refine vIf (fun hc => ?_) fun hc => ?_
    ·replace hc : ((254 : Int) - (n : Int) != 4) = true := hc
     have h4 := bne_iff_ne.1 hc
     have hs : v * v % pN * a % pN = zfS a (n + 1) := by rw [zgH, if_neg (by omega), hv]
     conv => whnf
     refine zae rfl rfl rfl (by kernel_rfl) (fun h X w H => zpW (zvI _) (Nat.lt_trans ha zyM) H.xk) rfl rfl rfl ?_
     rw [hs]
     conv => whnf
     refine ⟨fun _ _ => rfl, ?_⟩
     conv => whnf
     exact ⟨(), [], [], trivial, za3⟩
    ·replace hc : ((254 : Int) - (n : Int) != 4) = false := hc
     have h4 := bne_eq_false_iff_eq.1 hc
     rw [same (by omega)]
     conv => whnf
     exact ⟨(), [], [], trivial, za3⟩
   ·replace hc : ((254 : Int) - (n : Int) != 2) = false := hc
    have h2 := bne_eq_false_iff_eq.1 hc
    rw [same (by omega)]
    conv => whnf
    exact ⟨(), [], [], trivial, za3⟩
  conv => whnf
  refine zbi (z' := 254 - ((n + 1 : Nat) : Int)) (show (254 : Int) - (n : Int) - 1 = _ by omega) (by show (-9223372036854775808 : Int) ≤ 254 - (n : Int) - 1; omega) (by show (254 : Int) - (n : Int) - 1 ≤ _; omega) ?_
  conv => whnf
  exact ⟨(n + 1, zfS a (n + 1)), [], [], ⟨⟨hn2, rfl⟩, Nat.sub_lt_sub_left hn2 (Nat.lt_succ_self n)⟩, za3⟩
 replace hc : decide ((254 : Int) - (n : Int) ≥ 0) = false := hc
 have hn5 : n = 255 := by
  have := of_decide_eq_false hc
  omega
 subst hn5
 subst hv
 conv => whnf
 refine ⟨fun _ _ => rfl, ?_⟩
 conv => whnf
 exact zav rfl
end
end
section
open Go.RowKit
def zmI (kk : List Nat) : List Nat := zmp (zaR (zdx (fun i => kk.getD i 0) 9))
theorem zwz (kk : List Nat) : (zmI kk).length = 32 := zyR _
theorem zs4 (kk : List Nat) : ∀ x ∈ zmI kk, x < 256 := fun x hx => by
 obtain ⟨i, _, rfl⟩ := List.mem_map.1 hx
 exact zk9 _ _
def zDi : List Nat := [112, 97, 105, 114]
def zwA (gt : Nat → Nat) (seed : List Nat) : List Nat := zer gt seed zDi []
section
variable {X : List Nat} {w : World} {kk : List Nat} {gt : Nat → Nat}
theorem zDj (hX : ∀ k ∈ X, k < w.heap.size) (hk : ∀ x ∈ kk, x < 256) : Ct Tryz.prog 72 [.agg (ca [.key kk])] X w (.a (.agg [.key (zmI kk)])) [] [] := by
 have e9 : zj1 (fun i => ([9] : List Nat).getD i 0) = 9 := by
  rw [show (fun i => ([9] : List Nat).getD i 0) = fun i => if i = 0 then 9 else 0 from funext fun i => by cases i <;> rfl]
  exact zof
 refine vFn (k0 := 0) (rs := [.cell 2 23]) (svs := [.a (.agg [.key kk])]) (R0 := []) (hnQ []) Tryz.ntmps72 Tryz.func72 rfl rfl rfl rfl rfl zan (by kernel_rfl) hX (fun r hr => by cases hr) ?_
 conv => whnf
 refine zD7 (.a (.agg [.key [9]])) (fun h w => zgf (n := 32) (z := [.one (bv 0), .row 31 fun _ => bv 0]) [.key [9]] rfl (by kernel_rfl) (by kernel_rfl) ⟨_, [.one _], 0, _, rfl, rfl, rfl, rfl, rfl⟩ (by kernel_rfl)) rfl rfl ?_
 conv => whnf
 refine zae rfl rfl rfl (by kernel_rfl) (fun h X w H => zCy (kk := kk) (uu := [9]) H.xk hk (by decide)) rfl rfl rfl ?_
 rw [e9]
 conv => whnf
 exact zav rfl
theorem zs5 {s : ByteArray} {lab : List Nat} (hs : s.data.toList.map UInt8.toNat = lab) (hlab : lab.length ≤ 100) (hk32 : kk.length = 32) (hkb : ∀ x ∈ kk, x < 256) (hX : ∀ k ∈ X, k < w.heap.size) (hG : St (zbH gt 2) w X) : Ct Tryz.prog 71 [.agg (ca [.key kk]), .string s] X w (.a (.agg [.key (zer gt kk lab [])])) [] [] := by
 refine vFn (k0 := 0) (rs := [.cell 4 23]) (svs := [.a (.agg [.key kk]), zgW (.string s)]) (R0 := [.c (zbH gt 2)]) (hnQ []) Tryz.ntmps71 Tryz.func71 rfl rfl rfl rfl rfl zan (by kernel_rfl) hX (fun r hr => by rcases List.mem_singleton.1 hr with rfl; exact hG) ?_
 conv => whnf
 refine zae rfl rfl rfl (by kernel_rfl) (fun h X w H => zgM (ts := []) (q := (none, 0)) hs hlab hk32 hkb zci H.xk zcr (H.fact 0 rfl)) rfl rfl rfl ?_
 conv => whnf
 exact zav rfl
theorem zDk (hk32 : kk.length = 32) (hkb : ∀ x ∈ kk, x < 256) (hX : ∀ k ∈ X, k < w.heap.size) (hG : St (zbH gt 2) w X) : Ct Tryz.prog 42 [.agg (ca [.key kk])] X w (.tup [.agg [.key (zwA gt kk)], .agg [.key (zmI (zwA gt kk))]]) [] [] := by
 refine vFn (k0 := 0) (rs := [.cell 2 23, .cell 3 23]) (svs := [.a (.agg [.key kk])]) (R0 := [.c (zbH gt 2)]) (hnQ []) Tryz.ntmps42 Tryz.func42 rfl rfl rfl rfl rfl zan (by kernel_rfl) hX (fun r hr => by rcases List.mem_singleton.1 hr with rfl; exact hG) ?_
 conv => whnf
 refine zae rfl rfl rfl (by kernel_rfl) (fun h X w H => zs5 (lab := zDi) rfl (by decide) hk32 hkb H.xk (H.fact 0 rfl)) rfl rfl rfl ?_
 conv => whnf
 refine zaK 3 [] (by kernel_rfl) ?_
 conv => whnf
 refine zaA (zab (rs := []) (Rs := []) rfl rfl rfl (by kernel_rfl) rfl fun h X w H => zDj H.xk (zcR _ _ _ _)) ?_
 conv => whnf
 exact zav rfl
end
end
section
open Go.RowKit
theorem zwB {a : Nat} (h : a < pN) : a < 2 ^ 256 := Nat.lt_trans h zyM
theorem zwC : 121665 < pN := by unfold pN; decide +kernel
theorem zFq : pN - 2 = 57896044618658097711785492504343953926634992332820282019728792003956564819947 := by unfold pN; decide +kernel
attribute [local irreducible] zfS pN
section
variable {X : List Nat} {w : World} {a b : Nat} {kk : List Nat} {q s : Pt}
def ptV (q : Pt) : List SC := [.row 16 (uw (zai q.x)), .row 16 (uw (zai q.z))]
def ptW (q : Pt) : List Chunk := [.row 16 (uw (zai q.x)), .row 16 (uw (zai q.z))]
theorem zwD (ha : a < pN) (hb : b < pN) (hX : ∀ k ∈ X, k < w.heap.size) : Ct Tryz.prog 171 [.agg (ca [.row 16 (uw (zai a))]), .agg (ca [.row 16 (uw (zai b))])] X w (.a (.agg [.row 16 (uw (zai (fA a b)))])) [] [] := zDf (zwB ha) (zwB hb) hX
theorem zwE (ha : a < pN) (hb : b < pN) (hX : ∀ k ∈ X, k < w.heap.size) : Ct Tryz.prog 170 [.agg (ca [.row 16 (uw (zai a))]), .agg (ca [.row 16 (uw (zai b))])] X w (.a (.agg [.row 16 (uw (zai (fS a b)))])) [] [] := zDg (zwB ha) hb hX
theorem zji (ha : a < pN) (hb : b < pN) (hX : ∀ k ∈ X, k < w.heap.size) : Ct Tryz.prog 143 [.agg (ca [.row 16 (uw (zai a))]), .agg (ca [.row 16 (uw (zai b))])] X w (.a (.agg [.row 16 (uw (zai (fM a b)))])) [] [] := zpW (zwB ha) (zwB hb) hX
theorem zwF (hX : ∀ k ∈ X, k < w.heap.size) (hk : ∀ x ∈ kk, x < 256) : Ct Tryz.prog 138 [.agg (ca [.key kk])] X w (.a (.agg [.key (zeH kk)])) [] [] := by
 refine vFn (k0 := 0) (rs := [.cell 2 23]) (svs := [.a (.agg [.key kk])]) (R0 := []) (hnQ []) Tryz.ntmps138 Tryz.func138 rfl rfl rfl rfl rfl zan (by kernel_rfl) hX (fun r hr => by cases hr) ?_
 have hb0 := zb2 hk 0
 conv => whnf
 refine ⟨0, ⟨rfl, by decide⟩, .inl ?_⟩
 conv => whnf
 refine ⟨by decide, ((kk.getD 0 0 / 8 : Nat) : Int), ?_, ?_⟩
 ·show IntKind.u8.wrap (((kk.getD 0 0 : Nat) : Int).tdiv ((8 : Nat) : Int)) = _
  rw [← Int.ofNat_tdiv, wU8 (by omega) (by omega)]
 conv => whnf
 refine ⟨((kk.getD 0 0 / 8 * 8 : Nat) : Int), ?_, ?_⟩
 ·show IntKind.u8.wrap (((kk.getD 0 0 / 8 : Nat) : Int) * ((8 : Nat) : Int)) = _
  rw [← Int.natCast_mul, wU8 (by omega) (by omega)]
 conv => whnf
 refine ⟨0, ⟨rfl, by decide⟩, .inr ?_⟩
 conv => whnf
 refine zaH (zms (zmp (zsP fun i => kk.getD i 0)) (fun t ht => zcZ _ t ht) rfl rfl rfl rfl (by kernel_rfl) (by decide)) ?_
 conv => whnf
 refine ⟨31, ⟨rfl, by decide⟩, .inl ?_⟩
 conv => whnf
 have h31 : (zmp (zsP fun i => kk.getD i 0)).getD 31 0 = kk.getD 31 0 := zcZ _ 31 (by decide)
 have hb31 := zb2 hk 31
 refine ziM (c := 64) rfl (by decide) ?_
 rw [h31]
 conv => whnf
 refine ⟨((kk.getD 31 0 % 64 + 64 : Nat) : Int), ?_, ?_⟩
 ·show IntKind.u8.wrap (((kk.getD 31 0 % 64 : Nat) : Int) + ((64 : Nat) : Int)) = _
  rw [← Int.natCast_add, wU8 (by omega) (by omega)]
 conv => whnf
 refine ⟨31, ⟨rfl, by decide⟩, .inr ?_⟩
 conv => whnf
 refine zaH (zms (zeH kk) (fun t ht => ?_) rfl rfl rfl rfl (by kernel_rfl) (by decide)) ?_
 ·rw [zeH, zcZ _ t ht, zcZ _ t ht, zbf, zsP]
  by_cases h0 : t = 0
  ·subst h0; rw [if_pos rfl, if_neg (by decide), if_pos rfl]
  ·rw [if_neg h0, if_neg h0]
 conv => whnf
 exact zav rfl
theorem zka (hq : zfY q) (hX : ∀ k ∈ X, k < w.heap.size) : Ct Tryz.prog 141 [.agg (ca (ptW q))] X w (.a (.agg (ptV (zoE q)))) [] [] := by
 refine vFn (k0 := 0) (rs := [.cell 2 184]) (svs := [.a (.agg (ptV q))]) (R0 := []) (hnQ []) Tryz.ntmps141 Tryz.func141 rfl rfl rfl rfl rfl zan (by kernel_rfl) hX (fun r hr => by cases hr) ?_
 conv => whnf
 refine zae rfl rfl rfl (by kernel_rfl) (fun h X w H => zwD hq.1 hq.2 H.xk) rfl rfl rfl ?_
 conv => whnf
 refine ⟨fun _ _ => rfl, ?_⟩
 conv => whnf
 refine zae rfl rfl rfl (by kernel_rfl) (fun h X w H => zwE hq.1 hq.2 H.xk) rfl rfl rfl ?_
 conv => whnf
 refine ⟨fun _ _ => rfl, ?_⟩
 conv => whnf
 refine zae rfl rfl rfl (by kernel_rfl) (fun h X w H => zji (zpx _ _) (zpx _ _) H.xk) rfl rfl rfl ?_
 conv => whnf
 refine ⟨fun _ _ => rfl, ?_⟩
 conv => whnf
 refine zae rfl rfl rfl (by kernel_rfl) (fun h X w H => zji (zn7 _ _) (zn7 _ _) H.xk) rfl rfl rfl ?_
 conv => whnf
 refine ⟨fun _ _ => rfl, ?_⟩
 conv => whnf
 refine zae rfl rfl rfl (by kernel_rfl) (fun h X w H => zwE (zdf _ _) (zdf _ _) H.xk) rfl rfl rfl ?_
 conv => whnf
 refine ⟨fun _ _ => rfl, ?_⟩
 conv => whnf
 refine ⟨uw (zai 121665), ⟨rfl, rfl, rfl, rfl, rfl, rfl, rfl, rfl, rfl, rfl, rfl, rfl, rfl, rfl, rfl, rfl, trivial⟩, ?_⟩
 conv => whnf
 refine ⟨fun _ _ => rfl, ?_⟩
 conv => whnf
 refine zaK 9 [] (by kernel_rfl) ?_
 conv => whnf
 refine zaA (zab (rs := []) (Rs := []) rfl rfl rfl (by kernel_rfl) rfl fun h X w H => zji (zdf _ _) (zdf _ _) H.xk) ?_
 conv => whnf
 refine zaA (zab (rs := []) (Rs := []) rfl rfl rfl (by kernel_rfl) rfl fun h X w H => zji zwC (zn7 _ _) H.xk) ?_
 conv => whnf
 refine zaA (zab (rs := []) (Rs := []) rfl rfl rfl (by kernel_rfl) rfl fun h X w H => zwD (zdf _ _) (zdf _ _) H.xk) ?_
 conv => whnf
 refine zae rfl rfl rfl (by kernel_rfl) (fun h X w H => zji (zn7 _ _) (zpx _ _) H.xk) rfl rfl rfl ?_
 conv => whnf
 refine ⟨fun _ _ => rfl, ?_⟩
 conv => whnf
 refine ⟨fun _ _ => rfl, ?_⟩
 conv => whnf
 exact zav rfl
theorem zwG {u : Nat} (hu : u < pN) (hq : zfY q) (hs : zfY s) (hX : ∀ k ∈ X, k < w.heap.size) : Ct Tryz.prog 140 [.agg (ca [.row 16 (uw (zai u))]), .agg (ca (ptW q)), .agg (ca (ptW s))] X w (.a (.agg (ptV (zmm u q s)))) [] [] := by
 refine vFn (k0 := 0) (rs := [.cell 6 184]) (svs := [.a (.agg [.row 16 (uw (zai u))]), .a (.agg (ptV q)), .a (.agg (ptV s))]) (R0 := []) (hnQ []) Tryz.ntmps140 Tryz.func140 rfl rfl rfl rfl rfl zan (by kernel_rfl) hX (fun r hr => by cases hr) ?_
 conv => whnf
 refine zaK 12 [1011] (by kernel_rfl) ?_
 conv => whnf
 refine zaA (zab (rs := []) (Rs := []) rfl rfl rfl (by kernel_rfl) rfl fun h X w H => zwE hs.1 hs.2 H.xk) ?_
 conv => whnf
 refine zaA (zab (rs := []) (Rs := []) rfl rfl rfl (by kernel_rfl) rfl fun h X w H => zwD hq.1 hq.2 H.xk) ?_
 conv => whnf
 refine zaA (zab (rs := []) (Rs := []) rfl rfl rfl (by kernel_rfl) rfl fun h X w H => zji (zn7 _ _) (zpx _ _) H.xk) ?_
 conv => whnf
 refine zeA rfl (ze5 (z := [.row 16 (uw fun _ => 0)]) (fun hn => by kernel_rfl) rfl rfl) ?_
 conv => whnf
 refine ⟨fun _ _ => rfl, ?_⟩
 conv => whnf
 refine zaK 12 [1011] (by kernel_rfl) ?_
 conv => whnf
 refine zaA (zab (rs := []) (Rs := []) rfl rfl rfl (by kernel_rfl) rfl fun h X w H => zwD hs.1 hs.2 H.xk) ?_
 conv => whnf
 refine zaA (zab (rs := []) (Rs := []) rfl rfl rfl (by kernel_rfl) rfl fun h X w H => zwE hq.1 hq.2 H.xk) ?_
 conv => whnf
 refine zaA (zab (rs := []) (Rs := []) rfl rfl rfl (by kernel_rfl) rfl fun h X w H => zji (zpx _ _) (zn7 _ _) H.xk) ?_
 conv => whnf
 refine zeA rfl (ze5 (z := [.row 16 (uw fun _ => 0)]) (fun hn => by kernel_rfl) rfl rfl) ?_
 conv => whnf
 refine ⟨fun _ _ => rfl, ?_⟩
 conv => whnf
 refine zae rfl rfl rfl (by kernel_rfl) (fun h X w H => zwD (zdf _ _) (zdf _ _) H.xk) rfl rfl rfl ?_
 conv => whnf
 refine ⟨fun _ _ => rfl, ?_⟩
 conv => whnf
 refine zae rfl rfl rfl (by kernel_rfl) (fun h X w H => zwE (zdf _ _) (zdf _ _) H.xk) rfl rfl rfl ?_
 conv => whnf
 refine ⟨fun _ _ => rfl, ?_⟩
 conv => whnf
 refine zaK 7 [] (by kernel_rfl) ?_
 conv => whnf
 refine zaA (zab (rs := []) (Rs := []) rfl rfl rfl (by kernel_rfl) rfl fun h X w H => zji (zpx _ _) (zpx _ _) H.xk) ?_
 conv => whnf
 refine zaA (zab (rs := []) (Rs := []) rfl rfl rfl (by kernel_rfl) rfl fun h X w H => zji (zn7 _ _) (zn7 _ _) H.xk) ?_
 conv => whnf
 refine zae rfl rfl rfl (by kernel_rfl) (fun h X w H => zji hu (zdf _ _) H.xk) rfl rfl rfl ?_
 conv => whnf
 refine ⟨fun _ _ => rfl, ?_⟩
 conv => whnf
 refine ⟨fun _ _ => rfl, ?_⟩
 conv => whnf
 exact zav rfl
end
theorem zzC : (fun _ : Nat => Value.int .u64 0) = uw (zai 0) := funext fun i => by unfold uw zai; rw [Nat.zero_div]; rfl
def ldM (p : Pt × Pt) (m : MB) : MB := (5, .blk (ptV p.1) 184) :: (6, .blk (ptV p.2) 184) :: m
section
variable {X : List Nat} {w : World} {kk uu : List Nat}
theorem zzD (hX : ∀ k ∈ X, k < w.heap.size) (hk : ∀ x ∈ kk, x < 256) (hu : ∀ x ∈ uu, x < 256) : Ct Tryz.prog 104 [.agg (ca [.key kk]), .agg (ca [.key uu])] X w (.a (.agg [.key (zmp (zaR (zdx (fun i => kk.getD i 0) (zj1 fun i => uu.getD i 0))))])) [] [] := by
 obtain ⟨K, hK⟩ : ∃ K : Nat → Nat, K = zbf fun i => kk.getD i 0 := ⟨_, rfl⟩
 obtain ⟨u, hue⟩ : ∃ u : Nat, u = zj1 fun i => uu.getD i 0 := ⟨_, rfl⟩
 have hup : u < pN := by rw [hue]; exact zvQ _
 have hKk : ∀ i, i < 32 → (zeH kk).getD i 0 = K i := fun i hi => by rw [zeH, zcZ _ i hi, hK]
 have hlad := zn8 u hup K
 refine vFn (k0 := 0) (rs := [.cell 4 23]) (svs := [.a (.agg [.key kk]), .a (.agg [.key uu])]) (R0 := []) (hnQ []) Tryz.ntmps104 Tryz.func104 rfl rfl rfl rfl rfl zan (by kernel_rfl) hX (fun r hr => by cases hr) ?_
 conv => whnf
 refine zae rfl rfl rfl (by kernel_rfl) (fun h X w H => zwF H.xk hk) rfl rfl rfl ?_
 conv => whnf
 refine zae rfl rfl rfl (by kernel_rfl) (fun h X w H => zDh hu H.xk) rfl rfl rfl ?_
 rw [← hue]
 conv => whnf
 refine ⟨fun _ _ => rfl, ?_⟩
 conv => whnf
 refine ⟨uw (zai 1), ⟨rfl, rfl, rfl, rfl, rfl, rfl, rfl, rfl, rfl, rfl, rfl, rfl, rfl, rfl, rfl, rfl, trivial⟩, ?_⟩
 conv => whnf
 refine ⟨fun _ _ => rfl, ?_⟩
 conv => whnf
 rw [zzC]
 refine ⟨fun _ _ => rfl, fun _ _ => rfl, ?_⟩
 conv => whnf
 refine ⟨fun _ _ => rfl, ?_⟩
 conv => whnf
 refine ⟨fun _ _ => rfl, ?_⟩
 conv => whnf
 refine ⟨Nat × (Pt × Pt), fun k l m R g => ⟨k, (9, zaD .i64 (254 - (g.1 : Int))) :: za2 [2, 4, 5, 7, 8] l, ldM g.2 m, R⟩, fun g => g.1 ≤ 255 ∧ g.2 = zdP u K g.1, fun g => 255 - g.1, ⟨(0, (⟨1, 0⟩, ⟨u, 1⟩)), [], [], ⟨Nat.zero_le _, rfl⟩, za3⟩, fun g hg => ?_⟩
 obtain ⟨n, ⟨p1, p2⟩⟩ := g
 obtain ⟨hn, hp⟩ : n ≤ 255 ∧ (p1, p2) = zdP u K n := hg
 have hp1 : zfY p1 := by have := (hlad n).1; rw [← hp] at this; exact this
 have hp2 : zfY p2 := by have := (hlad n).2; rw [← hp] at this; exact this
 have hnx : zdP u K (n + 1) = zgG u (zeo K n) p1 p2 := by
  show zgG u (zeo K n) (zdP u K n).1 (zdP u K n).2 = _
  rw [← hp]
 conv => whnf
 refine vIf (fun hc => ?_) fun hc => ?_
 ·replace hc : decide ((254 : Int) - (n : Int) ≥ 0) = true := hc
  have hn2 : n < 255 := by
   have := of_decide_eq_true hc
   omega
  have e1 : (254 : Int) - (n : Int) = ((254 - n : Nat) : Int) := by omega
  refine .inr ⟨Pt × Pt, fun k l m R g => ⟨k, za2 [2, 4, 5, 7, 8, 9] l, ldM g m, R⟩, fun g => g = zdP u K (n + 1), ?_, fun g hg => ?_⟩
  rotate_left
  ·conv => whnf
   refine zbi (z' := 254 - ((n + 1 : Nat) : Int)) (show (254 : Int) - (n : Int) - 1 = _ by omega) (by show (-9223372036854775808 : Int) ≤ 254 - (n : Int) - 1; omega) (by show (254 : Int) - (n : Int) - 1 ≤ _; omega) ?_
   conv => whnf
   exact ⟨(n + 1, g), [], [], ⟨⟨hn2, hg⟩, Nat.sub_lt_sub_left hn2 (Nat.lt_succ_self n)⟩, za3⟩
  conv => whnf
  refine ⟨by decide, (((254 - n) / 8 : Nat) : Int), ?_, ?_⟩
  ·show IntKind.i64.wrap (((254 : Int) - (n : Int)).tdiv ((8 : Nat) : Int)) = _
   rw [e1, ← Int.ofNat_tdiv]
   exact zw5 (by omega) (by omega)
  conv => whnf
  refine ⟨(254 - n) / 8, ⟨rfl, by omega⟩, .inr ?_⟩
  conv => whnf
  refine ⟨by omega, ?_⟩
  conv => whnf
  refine ⟨by decide, (((254 - n) % 8 : Nat) : Int), ?_, ?_⟩
  ·show ((254 : Int) - (n : Int)).tmod ((8 : Nat) : Int) = _
   rw [e1, ← Int.ofNat_tmod]
  conv => whnf
  refine zrG (K := .u8) (k := (254 - n) % 8) rfl (by show _ ≤ 8; omega) ?_
  rw [hKk _ (by omega)]
  conv => whnf
  refine ziM (c := 2) rfl (by decide) ?_
  rw [show K ((254 - n) / 8) / 2 ^ ((254 - n) % 8) % 2 = zeo K n from rfl]
  conv => whnf
  refine vIf (fun hc => ?_) fun hc => ?_
  ·have hb : zeo K n = 1 := by have := eq_of_beq hc; omega
   have hs : (zmm u p2 p1, zoE p2) = zdP u K (n + 1) := by rw [hnx, zgG, if_pos hb]
   conv => whnf
   refine zaK 5 [] (by kernel_rfl) ?_
   conv => whnf
   refine zaA (zab (rs := []) (Rs := []) rfl rfl rfl (by kernel_rfl) rfl fun h X w H => zwG hup hp2 hp1 H.xk) ?_
   conv => whnf
   refine zae rfl rfl rfl (by kernel_rfl) (fun h X w H => zka hp2 H.xk) rfl rfl rfl ?_
   conv => whnf
   refine ⟨fun _ _ => rfl, fun _ _ => rfl, ?_⟩
   conv => whnf
   refine ⟨fun _ _ => rfl, fun _ _ => rfl, ?_⟩
   conv => whnf
   exact ⟨(zmm u p2 p1, zoE p2), [], [], hs, za3⟩
  ·have hb : zeo K n ≠ 1 := fun e => by rw [e] at hc; cases hc
   have hs : (zoE p1, zmm u p1 p2) = zdP u K (n + 1) := by rw [hnx, zgG, if_neg hb]
   conv => whnf
   refine zaK 5 [] (by kernel_rfl) ?_
   conv => whnf
   refine zaA (zab (rs := []) (Rs := []) rfl rfl rfl (by kernel_rfl) rfl fun h X w H => zka hp1 H.xk) ?_
   conv => whnf
   refine zae rfl rfl rfl (by kernel_rfl) (fun h X w H => zwG hup hp1 hp2 H.xk) rfl rfl rfl ?_
   conv => whnf
   refine ⟨fun _ _ => rfl, fun _ _ => rfl, ?_⟩
   conv => whnf
   refine ⟨fun _ _ => rfl, fun _ _ => rfl, ?_⟩
   conv => whnf
   exact ⟨(zoE p1, zmm u p1 p2), [], [], hs, za3⟩
 replace hc : decide ((254 : Int) - (n : Int) ≥ 0) = false := hc
 have hn5 : n = 255 := by
  have := of_decide_eq_false hc
  omega
 subst hn5
 conv => whnf
 refine zaK 5 [] (by kernel_rfl) ?_
 conv => whnf
 refine zaA (zab (rs := []) (Rs := []) rfl rfl rfl (by kernel_rfl) rfl fun h X w H => zs3 hp1.2 H.xk) ?_
 conv => whnf
 refine zae rfl rfl rfl (by kernel_rfl) (fun h X w H => zji hp1.1 (zvJ _ _) H.xk) rfl rfl rfl ?_
 conv => whnf
 refine zae rfl rfl rfl (by kernel_rfl) (fun h X w H => zww H.xk) rfl rfl rfl ?_
 conv => whnf
 refine zav ?_
 have e : fM p1.x (zfS p1.z 255) = zdx (fun i => kk.getD i 0) u := by
  rw [zdx, ← hK, ← hp]
  show p1.x * zfS p1.z 255 % pN = p1.x * _ % pN
  rw [Nat.mul_mod, zyN, ← Nat.mul_mod, zFq]
 rw [← e]
 rfl
theorem zzE (hX : ∀ k ∈ X, k < w.heap.size) (hk : ∀ x ∈ kk, x < 256) : Ct Tryz.prog 73 [.agg (ca [.key kk])] X w (.a (.agg [.key (zmI kk)])) [] [] := by
 refine vFn (k0 := 0) (rs := [.cell 2 23]) (svs := [.a (.agg [.key kk])]) (R0 := []) (hnQ []) Tryz.ntmps73 Tryz.func73 rfl rfl rfl rfl rfl zan (by kernel_rfl) hX (fun r hr => by cases hr) ?_
 have e9 : zj1 (fun i => ([9] : List Nat).getD i 0) = 9 := by
  rw [show (fun i => ([9] : List Nat).getD i 0) = fun i => if i = 0 then 9 else 0 from funext fun i => by cases i <;> rfl]
  exact zof
 conv => whnf
 refine zD7 (.a (.agg [.key [9]])) (fun h w => zgf (n := 32) (z := [.one (bv 0), .row 31 fun _ => bv 0]) [.key [9]] rfl (by kernel_rfl) (by kernel_rfl) ⟨_, [.one _], 0, _, rfl, rfl, rfl, rfl, rfl⟩ (by kernel_rfl)) rfl rfl ?_
 conv => whnf
 refine zae rfl rfl rfl (by kernel_rfl) (fun h X w H => zzD (kk := kk) (uu := [9]) H.xk hk (by decide)) rfl rfl rfl ?_
 rw [e9]
 conv => whnf
 exact zav rfl
end
end
section
open Go.RowKit
section
variable {X : List Nat} {w : World} {kk : List Nat} {gt : Nat → Nat} {q : Qd}
theorem zwH {W n b : Nat} (h1 : 1 ≤ W) (h8 : W ≤ 8) (hn : n < 18446744073709551616) (hf : n < 256 ^ W) (hX : ∀ k ∈ X, k < w.heap.size) (hb : St (AtC ⟨b, 0, none⟩ [.one (.int .u64 ((n : Nat) : Int))]) w X) : Ct Tryz.prog 40 [.slice none 0 0, .int .i64 W, .slice (some ⟨b, 0, none⟩) 1 1] X w (.tup [.s (.p (.hd 0 (beL W n).length)), .s (.p (.v (.int .i64 0)))]) [.gone] [.sl 0 (beL W n).length (TxG (beL W n))] := by
 have hc : w.cell? ⟨b, 0, none⟩ = some (.int .u64 ((n : Nat) : Int)) := by have := hb.now 0 _ rfl; rwa [zax] at this
 refine (zCG none 0 0 [] (by omega) W n h1 h8 hn hf b w (World.block_lt_of_cell? _ _ hc) hc (TxF.nil_ (w := w)).txt).mono ?_
 rintro e w2 ⟨v, rfl, ho, hbl⟩
 rw [List.nil_append] at ho
 obtain ⟨A', c', rfl, h2⟩ := zoV (X := X) hX ho hbl
 have h3 := h2.rowTx (Sep.new_x h2) (by simp [beL, beK]; omega) (zqY _ _)
 refine ⟨hnQ [(A', c')], rfl, h3.refacts fun r hr => ?_⟩
 rcases List.mem_singleton.1 hr with rfl
 exact (h3.facts _ (List.mem_cons_self ..)).imp fun w2 hw => ⟨fun e => (hw.nil e).1, hw⟩
def zwI : List Nat := [115, 101, 110, 100, 101, 114]
def zwJ (gt : Nat → Nat) (app : List Nat) (n : Nat) : List Nat := zer gt app zwI [beL 4 n]
def zGX (chain : List Nat) (g : Nat) (x : SP) : SA := .agg [.key chain, .one (.p (.v (.int .u64 ((g : Nat) : Int)))), .one (.p x)]
def zGY : SP := .v (.slice none 0 0)
theorem zwK {t : List Nat} (h : t.length ≤ 1000) : zj8 [t] := ⟨by show 1 ≤ 100; decide, fun x hx => by rcases List.mem_singleton.1 hx with rfl; exact h⟩
theorem zwL {n : Nat} (hn : n ≤ 1048576) (hk32 : kk.length = 32) (hkb : ∀ x ∈ kk, x < 256) (hX : ∀ k ∈ X, k < w.heap.size) (hG : St (zbH gt 2) w X) : Ct Tryz.prog 15 [.agg (ca [.key kk]), .int .i64 n] X w (.tup [zGX (zwJ gt kk n) 0 zGY, .s (.p (.v (.int .i64 0)))]) [] [] := by
 refine vFn (k0 := 0) (rs := [.cell 4 46, .tmp 5]) (svs := [.a (.agg [.key kk]), zaD .i64 n]) (R0 := [.c (zbH gt 2)]) (hnQ []) Tryz.ntmps15 Tryz.func15 rfl rfl rfl rfl rfl zan (by kernel_rfl) hX (fun r hr => by rcases List.mem_singleton.1 hr with rfl; exact hG) ?_
 conv => whnf
 refine vF (decide_eq_false (by omega)) ?_
 conv => whnf
 refine zA9 (by omega) (by omega) ?_
 conv => whnf
 obtain ⟨nb, hnb⟩ : ∃ nb, nb = beL 4 n := ⟨_, rfl⟩
 have hnl : nb.length = 4 := by rw [hnb]; simp [beL, beK]
 refine zaT (zba [2] rfl rfl (zaE (sv := .tup [.s (.p (.hd 3 nb.length)), .s (.p (.v (.int .i64 0)))]) (rs := [.gone]) (Rs := [.sl 3 nb.length (TxG nb)]) (zab (sv := .tup [.s (.p (.hd 0 nb.length)), .s (.p (.v (.int .i64 0)))]) (rs := [.gone]) (Rs := [.sl 0 nb.length (TxG nb)]) rfl rfl rfl (by kernel_rfl) rfl fun h X w H => ?_) rfl rfl)) ?_
 ·rw [hnb]
  exact zwH (W := 4) (n := n) (b := h.b 2) (by decide) (by decide) (by omega) (by omega) H.xk (H.fact 0 rfl)
 conv => whnf
 refine zaH (zba [4] rfl rfl (zaE (rs := []) (Rs := []) (zab (rs := []) (Rs := []) rfl rfl rfl (by kernel_rfl) rfl fun h X w H => zgM (lab := zwI) (ts := [nb]) (q := (some ⟨h.b 4, 0, none⟩, 1)) rfl (by decide) hk32 hkb (zwK (by omega)) H.xk (zcM (ql := [h.r 3]) rfl (by simp) (H.fact 0 rfl) fun t x hx => by
  match t with
  | 0 => obtain rfl := Option.some.inj hx; exact zeB (H.fact 1 rfl)
  | t + 1 => simp at hx) (H.fact 3 rfl)) rfl rfl)) ?_
 conv => whnf
 refine zav ?_
 rw [hnb]
 rfl
def epS (n : Nat) (a b c d e : List Nat) : SA := .agg [.one (.p (.v (.int .u64 ((n : Nat) : Int)))), .key a, .key b, .key c, .key d, .key e]
def epC (n : Nat) (a b c d e : List Nat) : List Chunk := [.one (.int .u64 ((n : Nat) : Int)), .key a, .key b, .key c, .key d, .key e]
theorem zjj {n : Nat} {a b c d e : List Nat} (hX : ∀ k ∈ X, k < w.heap.size) : Ct Tryz.prog 58 [.agg (ca (epC n a b c d e))] X w (zaD .i64 (if n ≤ 1099511627776 then 0 else 1)) [] [] := by
 refine vFn (k0 := 0) (rs := [.tmp 2]) (svs := [.a (epS n a b c d e)]) (R0 := []) (hnQ []) Tryz.ntmps58 Tryz.func58 rfl rfl rfl rfl rfl zan (by kernel_rfl) hX (fun r hr => by cases hr) ?_
 conv => whnf
 refine vIf (fun h => ?_) fun h => ?_
 ·have h1 : (n : Int) > 1099511627776 := of_decide_eq_true h
  conv => whnf
  rw [if_neg (by omega)]
  exact zav rfl
 ·have h1 : ¬ (n : Int) > 1099511627776 := of_decide_eq_false h
  conv => whnf
  rw [if_pos (by omega)]
  exact zav rfl
def erF (b : Nat) (w : World) : Prop := hdF [.one (.int .i64 0)] 38 b w
def erR : List SF := [.b 0 (hdF [.one (.int .i64 0)] 38), .blk 0 [.one (.p (.v (.int .i64 0)))]]
theorem zjk {b : Nat} {s : ByteArray} {lab : List Nat} {ts : List (List Nat)} (hs : s.data.toList.map UInt8.toNat = lab) (hlab : lab.length ≤ 100) (hk32 : kk.length = 32) (hkb : ∀ x ∈ kk, x < 256) (hts : zj8 ts) (hX : ∀ k ∈ X, k < w.heap.size) (hL : St (SlQ zay ts q) w X) (hG : St (zbH gt 2) w X) (hr : St (erF b) w X) : Ct Tryz.prog 59 [.agg (ca [.key kk]), .string s, .slice q.1 ts.length q.2, .pointer (some ⟨b, 0, none⟩)] X w (.a (.agg [.key (zer gt kk lab ts)])) [] [] := by
 refine vFn (k0 := 2) (rs := [.cell 7 23]) (svs := [.a (.agg [.key kk]), zgW (.string s), .a (.s (.p (.hd 1 ts.length))), atS 0 0]) (R0 := erR ++ [.sl 1 ts.length (SlF zay ts), .c (zbH gt 2)]) (hnB [b] [(none, 0), q]) Tryz.ntmps59 Tryz.func59 rfl rfl rfl rfl rfl zan (by kernel_rfl) hX (fun r h => by
  rcases List.mem_cons.1 h with rfl | h
  ·exact hr
  rcases List.mem_cons.1 h with rfl | h
  ·exact hr.imp fun w' hw => zz0 hw
  rcases List.mem_cons.1 h with rfl | h
  ·exact hL
  ·rcases List.mem_singleton.1 h with rfl; exact hG) ?_
 conv => whnf
 refine .inl ?_
 conv => whnf
 refine zae rfl rfl rfl (by kernel_rfl) (fun h X w H => zgM hs hlab hk32 hkb hts H.xk (H.fact 2 rfl) (H.fact 3 rfl)) rfl rfl rfl ?_
 conv => whnf
 refine zaH (zuA 0 rfl rfl rfl rfl rfl (by kernel_rfl)) ?_
 conv => whnf
 exact zav rfl
def zwM : List Nat := [101, 112, 111, 99, 104]
def zzF : List Nat := [105, 110, 105, 116]
def zDG : List Nat := [97, 112, 112]
def zh8 : List Nat := [99, 111, 110, 102, 105, 114, 109]
def zmK : List Nat := [109, 101, 109, 98, 101, 114]
def zr7 (gt : Nat → Nat) (j : List Nat) (n : Nat) (tree hash : List Nat) : List Nat := zer gt j zwM [beL 8 n, tree, hash]
def zAw (gt : Nat → Nat) (k : List Nat) (n : Nat) (hash : List Nat) : SA := epS n (zer gt k zzF []) (zer gt k zDG []) (zer gt k zh8 []) (zer gt k zmK []) hash
theorem zzG {n : Nat} {tree hash : List Nat} (hn : n ≤ 1099511627776) (hk32 : kk.length = 32) (hkb : ∀ x ∈ kk, x < 256) (ht32 : tree.length = 32) (htb : ∀ x ∈ tree, x < 256) (hh32 : hash.length = 32) (hhb : ∀ x ∈ hash, x < 256) (hX : ∀ k ∈ X, k < w.heap.size) (hG : St (zbH gt 2) w X) : Ct Tryz.prog 33 [.agg (ca [.key kk]), .int .u64 n, .agg (ca [.key tree]), .agg (ca [.key hash])] X w (.tup [zAw gt (zr7 gt kk n tree hash) n hash, .s (.p (.v (.int .i64 0)))]) [] [] := by
 refine vFn (k0 := 0) (rs := [.cell 8 34, .tmp 9]) (svs := [.a (.agg [.key kk]), zaD .u64 n, .a (.agg [.key tree]), .a (.agg [.key hash])]) (R0 := [.c (zbH gt 2)]) (hnQ []) Tryz.ntmps33 Tryz.func33 rfl rfl rfl rfl rfl zan (by kernel_rfl) hX (fun r hr => by rcases List.mem_singleton.1 hr with rfl; exact hG) ?_
 conv => whnf
 refine zae (sv := zaD .i64 0) (rs := []) (Rs := []) rfl rfl rfl (by kernel_rfl) (fun h X w H => by
  have := zjj (n := n) (a := []) (b := []) (c := []) (d := []) (e := hash) H.xk
  rw [if_pos hn] at this
  exact this) rfl rfl rfl ?_
 conv => whnf
 obtain ⟨nb, hnb⟩ : ∃ nb, nb = beL 8 n := ⟨_, rfl⟩
 have hnl : nb.length = 8 := by rw [hnb]; simp [beL, beK]
 refine zaT (zba [5] rfl rfl (zaE (sv := .tup [.s (.p (.hd 6 nb.length)), .s (.p (.v (.int .i64 0)))]) (rs := [.gone]) (Rs := [.sl 6 nb.length (TxG nb)]) (zab (sv := .tup [.s (.p (.hd 0 nb.length)), .s (.p (.v (.int .i64 0)))]) (rs := [.gone]) (Rs := [.sl 0 nb.length (TxG nb)]) rfl rfl rfl (by kernel_rfl) rfl fun h X w H => ?_) rfl rfl)) ?_
 ·rw [hnb]
  exact zwH (W := 8) (n := n) (b := h.b 5) (by decide) (by decide) (by omega) (by omega) H.xk (H.fact 0 rfl)
 conv => whnf
 obtain ⟨k, hkk⟩ : ∃ k, k = zer gt kk zwM [nb, tree, hash] := ⟨_, rfl⟩
 have hkl : k.length = 32 := by rw [hkk]; exact zfe _ _ _ _
 have hkb2 : ∀ x ∈ k, x < 256 := by rw [hkk]; exact zcR _ _ _ _
 refine zaK 8 [] (by kernel_rfl) ?_
 conv => whnf
 refine zaA (zdZ (cs0 := [.one (.int .i64 0)]) 7 rfl (fun _ => rfl) (znu [8, 2, 1] rfl (zcG (sv := .a (.agg [.key k])) (rs := []) (Rs := []) (fs := fun _ => []) (cs := fun h => [.pointer (some ⟨h.b 7, 0, none⟩)]) rfl rfl rfl (by kernel_rfl) rfl (fun h => rfl) fun h X w H => ?_))) ?_
 ·rw [hkk]
  refine zjk (lab := zwM) (ts := [nb, tree, hash]) (q := (some ⟨h.b 8, 0, none⟩, 3)) rfl (by decide) hk32 hkb ⟨by show 3 ≤ 100; decide, fun x hx => ?_⟩ H.xk (zcM (ql := [h.r 6, (some ⟨h.b 1, 0, none⟩, 32), (some ⟨h.b 2, 0, none⟩, 32)]) rfl (by simp) ?_ fun t x hx => ?_) (H.fact 7 rfl) (H.fact 3 rfl)
  ·rcases List.mem_cons.1 hx with rfl | hx
   ·omega
   rcases List.mem_cons.1 hx with rfl | hx
   ·omega
   ·rcases List.mem_singleton.1 hx with rfl; omega
  ·have := H.fact 2 rfl
   have e : zaC h [.one (.p (.hd 6 nb.length)), .one (.p (.sl 1 0 32 32)), .one (.p (.sl 2 0 32 32))] = zcB [nb, tree, hash] [h.r 6, (some ⟨h.b 1, 0, none⟩, 32), (some ⟨h.b 2, 0, none⟩, 32)] := by
    simp only [zcB, ht32, hh32]
    rfl
   rw [← e]
   exact this
  ·match t with
   | 0 => obtain rfl := Option.some.inj hx; exact zeB (H.fact 5 rfl)
   | 1 => obtain rfl := Option.some.inj hx; exact zg2 ht32 htb (H.fact 0 rfl)
   | 2 => obtain rfl := Option.some.inj hx; exact zg2 hh32 hhb (H.fact 1 rfl)
   | t + 3 => simp at hx
 conv => whnf
 refine zfs (zdZ (cs0 := [.one (.int .i64 0)]) 7 rfl (fun _ => rfl) (zcG (sv := .a (.agg [.key (zer gt k zzF [])])) (rs := []) (Rs := []) (fs := fun _ => []) (cs := fun h => [.pointer (some ⟨h.b 7, 0, none⟩)]) rfl rfl rfl (by kernel_rfl) rfl (fun h => rfl) fun h X w H => zjk (lab := zzF) (ts := []) (q := (none, 0)) rfl (by decide) hkl hkb2 zci H.xk zcr (H.fact 4 rfl) (H.fact 0 rfl))) rfl rfl ?_
 conv => whnf
 refine zfs (zdZ (cs0 := [.one (.int .i64 0)]) 7 rfl (fun _ => rfl) (zcG (sv := .a (.agg [.key (zer gt k zDG [])])) (rs := []) (Rs := []) (fs := fun _ => []) (cs := fun h => [.pointer (some ⟨h.b 7, 0, none⟩)]) rfl rfl rfl (by kernel_rfl) rfl (fun h => rfl) fun h X w H => zjk (lab := zDG) (ts := []) (q := (none, 0)) rfl (by decide) hkl hkb2 zci H.xk zcr (H.fact 4 rfl) (H.fact 0 rfl))) rfl rfl ?_
 conv => whnf
 refine zfs (zdZ (cs0 := [.one (.int .i64 0)]) 7 rfl (fun _ => rfl) (zcG (sv := .a (.agg [.key (zer gt k zh8 [])])) (rs := []) (Rs := []) (fs := fun _ => []) (cs := fun h => [.pointer (some ⟨h.b 7, 0, none⟩)]) rfl rfl rfl (by kernel_rfl) rfl (fun h => rfl) fun h X w H => zjk (lab := zh8) (ts := []) (q := (none, 0)) rfl (by decide) hkl hkb2 zci H.xk zcr (H.fact 4 rfl) (H.fact 0 rfl))) rfl rfl ?_
 conv => whnf
 refine zfs (zdZ (cs0 := [.one (.int .i64 0)]) 7 rfl (fun _ => rfl) (zcG (sv := .a (.agg [.key (zer gt k zmK [])])) (rs := []) (Rs := []) (fs := fun _ => []) (cs := fun h => [.pointer (some ⟨h.b 7, 0, none⟩)]) rfl rfl rfl (by kernel_rfl) rfl (fun h => rfl) fun h X w H => zjk (lab := zmK) (ts := []) (q := (none, 0)) rfl (by decide) hkl hkb2 zci H.xk zcr (H.fact 4 rfl) (H.fact 0 rfl))) rfl rfl ?_
 conv => whnf
 refine zav ?_
 rw [zr7, ← hnb, ← hkk]
 rfl
end
end
section
open Go.RowKit
def zDm : List Nat := [110, 111, 100, 101]
def zwN : List Nat := [112, 97, 116, 104]
def zjm : List Nat := [99, 111, 109, 109, 105, 116]
def zjn (gt : Nat → Nat) (s : List Nat) : List Nat := zmI (zwA gt (zer gt s zDm []))
def zef : Ty (Nat × List Nat) where
 μ := Unit
 dft := ()
 sz := 33
 pos := by decide
 ch x _ := [.one (.int .u64 ((x.1 : Nat) : Int)), .key x.2]
 nest _ _ _ := True
 len _ _ := rfl
 one _ _ := ⟨rfl, trivial⟩
instance : Dec zef := ⟨fun _ => (), fun _ => [], fun _ => rfl⟩
structure Rat where
 chain : List Nat
 gen : Nat
 left : List (Nat × List Nat)
def zju : Ty Rat where
 μ := Qd
 dft := (none, 0)
 sz := 34
 pos := by decide
 ch r q := [.key r.chain, .one (.int .u64 ((r.gen : Nat) : Int)), .one (.slice q.1 r.left.length q.2)]
 nest r q := SlQ zef r.left q
 len _ _ := rfl
 one _ _ := ⟨rfl, rfl, trivial⟩
instance : Dec zju := ⟨fun l => qs l 0, fun m => [m], fun _ => rfl⟩
def zgO (gt : Nat → Nat) (app : List Nat) (id : Int) : Rat := ⟨zwJ gt app id.toNat, 0, []⟩
def zFr (id : Int) : Prop := 0 ≤ id ∧ id ≤ 1048576
section
variable {X : List Nat} {w : World} {kk : List Nat} {gt : Nat → Nat} {q : Qd}
theorem zd5 {s : ByteArray} {lab : List Nat} (hs : s.data.toList.map UInt8.toNat = lab) (hlab : lab.length ≤ 100) (hk32 : kk.length = 32) (hkb : ∀ x ∈ kk, x < 256) (hX : ∀ k ∈ X, k < w.heap.size) (hG : St (zbH gt 2) w X) : Ct Tryz.prog 31 [.agg (ca [.key kk]), .string s] X w (.a (.agg [.key (zer gt kk lab [])])) [] [] := by
 refine vFn (k0 := 0) (rs := [.cell 4 23]) (svs := [.a (.agg [.key kk]), zgW (.string s)]) (R0 := [.c (zbH gt 2)]) (hnQ []) Tryz.ntmps31 Tryz.func31 rfl rfl rfl rfl rfl zan (by kernel_rfl) hX (fun r hr => by rcases List.mem_singleton.1 hr with rfl; exact hG) ?_
 conv => whnf
 refine zae rfl rfl rfl (by kernel_rfl) (fun h X w H => zgM (ts := []) (q := (none, 0)) hs hlab hk32 hkb zci H.xk zcr (H.fact 0 rfl)) rfl rfl rfl ?_
 conv => whnf
 exact zav rfl
theorem zr8 (hk32 : kk.length = 32) (hkb : ∀ x ∈ kk, x < 256) (hX : ∀ k ∈ X, k < w.heap.size) (hG : St (zbH gt 2) w X) : Ct Tryz.prog 16 [.agg (ca [.key kk])] X w (.a (.agg [.key (zjn gt kk)])) [] [] := by
 refine vFn (k0 := 0) (rs := [.cell 2 23]) (svs := [.a (.agg [.key kk])]) (R0 := [.c (zbH gt 2)]) (hnQ []) Tryz.ntmps16 Tryz.func16 rfl rfl rfl rfl rfl zan (by kernel_rfl) hX (fun r hr => by rcases List.mem_singleton.1 hr with rfl; exact hG) ?_
 conv => whnf
 refine zae rfl rfl rfl (by kernel_rfl) (fun h X w H => zd5 (lab := zDm) rfl (by decide) hk32 hkb H.xk (H.fact 0 rfl)) rfl rfl rfl ?_
 conv => whnf
 refine zae rfl rfl rfl (by kernel_rfl) (fun h X w H => zDk (zfe _ _ _ _) (zcR _ _ _ _) H.xk (H.fact 0 rfl)) rfl rfl rfl ?_
 conv => whnf
 exact zav rfl
theorem zGF (hk32 : kk.length = 32) (hkb : ∀ x ∈ kk, x < 256) (hX : ∀ k ∈ X, k < w.heap.size) (hG : St (zbH gt 2) w X) : Ct Tryz.prog 18 [.agg (ca [.key kk])] X w (.a (.agg [.key (zer gt kk zwN [])])) [] [] := by
 refine vFn (k0 := 0) (rs := [.cell 2 23]) (svs := [.a (.agg [.key kk])]) (R0 := [.c (zbH gt 2)]) (hnQ []) Tryz.ntmps18 Tryz.func18 rfl rfl rfl rfl rfl zan (by kernel_rfl) hX (fun r hr => by rcases List.mem_singleton.1 hr with rfl; exact hG) ?_
 conv => whnf
 refine zae rfl rfl rfl (by kernel_rfl) (fun h X w H => zd5 (lab := zwN) rfl (by decide) hk32 hkb H.xk (H.fact 0 rfl)) rfl rfl rfl ?_
 conv => whnf
 exact zav rfl
theorem zDn (hk32 : kk.length = 32) (hkb : ∀ x ∈ kk, x < 256) (hX : ∀ k ∈ X, k < w.heap.size) (hG : St (zbH gt 2) w X) : Ct Tryz.prog 20 [.agg (ca [.key kk])] X w (.a (.agg [.key (zer gt kk zjm [])])) [] [] := by
 refine vFn (k0 := 0) (rs := [.cell 2 23]) (svs := [.a (.agg [.key kk])]) (R0 := [.c (zbH gt 2)]) (hnQ []) Tryz.ntmps20 Tryz.func20 rfl rfl rfl rfl rfl zan (by kernel_rfl) hX (fun r hr => by rcases List.mem_singleton.1 hr with rfl; exact hG) ?_
 conv => whnf
 refine zae rfl rfl rfl (by kernel_rfl) (fun h X w H => zd5 (lab := zjm) rfl (by decide) hk32 hkb H.xk (H.fact 0 rfl)) rfl rfl rfl ?_
 conv => whnf
 exact zav rfl
def zmL (gt : Nat → Nat) (app : List Nat) (ids : List Int) : List Rat := ids.map (zgO gt app)
theorem zwO {gt : Nat → Nat} {app : List Nat} {ids : List Int} {i : Nat} {id : Int} (h : ids[i]? = some id) : zmL gt app (ids.take (i + 1)) = zmL gt app (ids.take i) ++ [zgO gt app id] := by
 unfold zmL
 rw [List.take_add_one, h, List.map_append]
 rfl
theorem zs6 {ids : List Int} (hall : ∀ id ∈ ids, zFr id) (hil : ids.length ≤ 1000000) (hk32 : kk.length = 32) (hkb : ∀ x ∈ kk, x < 256) (hX : ∀ k ∈ X, k < w.heap.size) (hq : St (SlQ zbb ids q) w X) (hG : St (zbH gt 2) w X) : Ct Tryz.prog 11 [.agg (ca [.key kk]), .slice q.1 ids.length q.2] X w (.tup [.s (.p (.hd 0 ids.length)), .s (.p (.v (.int .i64 0)))]) [zbA zju (zmL gt kk ids) 46] [.q 0 (zc3 zju (zmL gt kk ids))] := by
 refine vFn (k0 := 1) (rs := [.tmp 4, .tmp 5]) (svs := [.a (.agg [.key kk]), .a (.s (.p (.hd 0 ids.length)))]) (R0 := [.sl 0 ids.length (SlF zbb ids), .c (zbH gt 2)]) (hnQ [q]) Tryz.ntmps11 Tryz.func11 rfl rfl rfl rfl rfl zan (by kernel_rfl) hX (fun r hr => by
  rcases List.mem_cons.1 hr with rfl | hr
  ·exact hq
  ·rcases List.mem_singleton.1 hr with rfl; exact hG) ?_
 conv => whnf
 refine ⟨Nat, fun k l m R i => ⟨3, (12, zaD .i64 i) :: (4, .a (.s (.p (.hd 2 i)))) :: za2 [2, 10, 11] l, (2, zbA zju (zmL gt kk (ids.take i)) 46) :: m, .q 2 (zc3 zju (zmL gt kk (ids.take i))) :: R⟩, fun i => i ≤ ids.length, fun i => ids.length - i, ⟨0, [], [2, 0, 1], Nat.zero_le _, za3 (hR := ⟨.inr fun _ _ _ _ => zf8, .inl rfl, .inl rfl, trivial⟩)⟩, fun i hi => ?_⟩
 conv => whnf
 refine vIf (fun hc => ?_) fun hc => ?_
 ·have hi2 : i < ids.length := by
   have : (i : Int) < ((ids.length : Nat) : Int) := of_decide_eq_true hc
   omega
  obtain ⟨id, hid⟩ : ∃ id, ids[i]? = some id := ⟨_, jP hi2⟩
  obtain ⟨h0, h1⟩ := hall id (List.mem_of_getElem? hid)
  have hidn : id = ((id.toNat : Nat) : Int) := by omega
  have hrl : (zmL gt kk (ids.take i)).length = i := by unfold zmL; rw [List.length_map, List.length_take]; omega
  conv => whnf
  refine ⟨i, ⟨rfl, hi2, hi2⟩, ?_⟩
  conv => whnf
  refine zb4 (zcb (T := zbb) (sv := zaD .i64 id) 1 hid (fun _ => rfl) rfl rfl rfl (by kernel_rfl) (fun _ => .inr ⟨rfl, rfl, rfl⟩)) rfl rfl ?_
  conv => whnf
  refine zae (sv := .tup [zGX (zwJ gt kk id.toNat) 0 zGY, .s (.p (.v (.int .i64 0)))]) (rs := []) (Rs := []) rfl rfl rfl (by kernel_rfl) (fun h X w H => by
   have := zwL (gt := gt) (n := id.toNat) (by omega) hk32 hkb H.xk (H.fact 2 rfl)
   rw [← hidn] at this
   exact this) rfl rfl rfl ?_
  conv => whnf
  refine zaT (zkO (T := zju) (e := 46) (x := zgO gt kk id) (μs := fun _ => [(none, 0)]) (by_ := 64) rfl rfl rfl hrl.symm rfl rfl rfl (fun _ => rfl) ⟨by kernel_rfl, by kernel_rfl⟩ (by omega) (by omega) rfl rfl (.head _) (fun _ _ _ => rfl) fun h w Y _ => zcr) ?_
  rw [← zwO hid]
  conv => whnf
  refine zc2 (by omega) (by omega) ?_
  conv => whnf
  exact ⟨i + 1, [(0, 0), (1, 1), (2, 5)], [0, 2, 3], ⟨hi2, Nat.sub_lt_sub_left hi2 (Nat.lt_succ_self i)⟩, za3⟩
 have hi5 : i = ids.length := by
   have : ¬ (i : Int) < ((ids.length : Nat) : Int) := of_decide_eq_false hc
   omega
 subst hi5
 rw [List.take_length]
 conv => whnf
 exact zaZ [(0, 2)] [0] (.inl rfl) ⟨.inl rfl, trivial⟩ rfl ⟨.inl rfl, trivial⟩
end
end
end Go.Proofs.YtcmmpiaogfnmoaaGreatDoor
