/- A buffer that is written nothing. The library's buffer, laid at this program (written by the kit's own tool). Texts are written, one behind the other. A key's keys; what stands behind what is sealed. Keys held against each other; a text as a key; a string's bytes. Keys of keys. Texts, one behind the other: slices.Concat. What is sealed, and opened. Pairs, the key of two, boxes (layer 8). Boxes (layer 8). The chapter's example; the law SealStream: whatever the key and the texts, it answers true. Few texts; the same texts; streams, plain. The chapter's example; the laws KemMeets, KemSeeds, KemBa -/
import Derived.Test.YtfolbgiekbimpaaGreatDoorKemUnboxesH
import Derived.Lib.Buffer
import Derived.Shelf.Bytes.WriteAny
import Derived.Shelf.Bytes.Bytes
import Derived.Lib.AppendZeros
set_option linter.unusedSimpArgs false
set_option linter.unusedVariables false
set_option maxRecDepth 200000
set_option maxHeartbeats 6000000
namespace Go.Proofs.YtfolbgiekbimpaaGreatDoor
section
open Go.RowKit
section
variable {P : Program} {o : Oper} {a : Act} {w ws : World} {Q : Exit → Act → World → Prop} {N d : Nat} {l : List (Nat × Value)} {v : Value} {S : Nat → Prop} {K : Act → World → Prop} {x y : Operand}
theorem zzA {t : TypeId} {A : Option Addr} {n c : Nat} (ho : o.op = .call { callee := .builtin .cap, args := #[x], argTypes := #[t] }) (hx : ev l x = some (.slice A n c)) (ht : zzK P t = true) : PK P S ws l o (.int .i64 c) := fun w' _ a N E => by
 obtain ⟨e, hu⟩ := zxm ht
 unfold execOp; rw [ho]
 simp [resolve, invoke, builtin, E.ev hx, Builtin.cap_, run_underlying hu, Sem.run_bind, goInt]
theorem zug {dT sT dn dc c : Nat} {A B : Option Addr} (E : Env a N l) (ho : o.op = .call { callee := .builtin .copy, args := #[x, y], argTypes := #[dT, sT] }) (hx : ev l x = some (.slice A dn dc)) (hy : ev l y = some (.slice B 0 c)) (hT : elK P dT = some 1) (h : K (a.put o.dst (.int .i64 0)) w) : o.wp P a w K Q := by
 obtain ⟨e, he, hs⟩ := zpe hT
 have hr := run_copy_none (P := P) w dT sT o.type e A B dn dc 0 c he hs (Nat.zero_min _)
 unfold Oper.wp execOp
 simp only [ho, resolve, invoke, builtin, Sem.run_bind, Sem.run_pure, Result.andThen_ok, List.map_toArray, List.map_cons, List.map_nil, E.ev hx, E.ev hy, hr]
 exact h
end
theorem znW {b rc : Nat} {lr : Int} {RA : Option Addr} {k : List Nat} (hkl : k.length ≤ 140737488355328) (hrc : rc ≤ 9223372036854775807) {X : List Nat} {w0 : World} (hX : ∀ k ∈ X, k < w0.heap.size) (H0 : Sep X (zbz [.blk b (ca [.one (.slice RA k.length rc), .one (.int .i64 0), .one (.int .i8 lr)]) 107, .row (.slice RA k.length rc) 5 1 k.length (k.map bv)]) w0 w0 [.blk b (ca [.one (.slice RA k.length rc), .one (.int .i64 0), .one (.int .i8 lr)]) 107, .row (.slice RA k.length rc) 5 1 k.length (k.map bv)] []) :
  Calls Tryz.prog 106 #[.pointer (some ⟨b, 0, none⟩), .int .i64 0] w0 fun e w' => e = .returned (.tuple #[.int .i64 k.length, .bool true]) ∧ Sep X (zbz [.blk b (ca [.one (.slice RA k.length rc), .one (.int .i64 0), .one (.int .i8 lr)]) 107, .row (.slice RA k.length rc) 5 1 k.length (k.map bv)]) w0 w' [.blk b (ca [.one (.slice RA k.length rc), .one (.int .i64 0), .one (.int .i8 lr)]) 107, .row (.slice RA k.length rc) 5 1 k.length (k.map bv)] [] := by
 refine zaz Tryz.ntmps106 Tryz.func106 rfl rfl fun a E => ?_; replace E : Env a _ [(0, _), (1, _)] := E
 have H := H0
 have hcap : k.length ≤ rc := zkW (H0.holds _ (by simp) : (Res.row (.slice RA k.length rc) 5 1 k.length (k.map bv)).holds w0)
 have hH := H0
 refine Vr ?_; refine Vv E pka fun a E => ?_; refine Vv E pka fun a E => ?_; refine Vn ?_; refine wp_seq_k fun K1 hK1 => ?_; refine Vr ?_; refine Vv E pkm fun a E => ?_; refine Vv E (zbF rfl rfl) fun a E => ?_; refine Vv E (zaM (off := 0) rfl rfl (by kernel_rfl)) fun a E => ?_; refine Vv E (pko H 0) fun a E => ?_; refine Vv E pkn fun a E => ?_; refine Vv E pka fun a E => ?_; refine Vn ?_; refine Vr ?_
 refine Vv E pkm fun a E => ?_; refine Vv E pkm fun a E => ?_; refine Vv E (zbF rfl rfl) fun a E => ?_; refine Vv E (zaM (off := 0) rfl rfl (by kernel_rfl)) fun a E => ?_; refine Vv E (pko H 0) fun a E => ?_; refine Vv E (zzA rfl rfl (by kernel_rfl)) fun a E => ?_; refine Vv E pkm fun a E => ?_; refine Vv E (zaK rfl rfl rfl rfl (zdf (by omega) (by omega))) fun a E => ?_; refine Vv E (zbD (v := .bool true) rfl rfl rfl (congrArg (fun b => some (Value.bool b)) (decide_eq_true (by omega)))) fun a E => ?_; refine Vn ?_; refine za7 E rfl ?_
 refine Vr ?_; refine Vv E pkm fun a E => ?_; refine Vv E pkm fun a E => ?_; refine Vv E (zbF rfl rfl) fun a E => ?_; refine Vv E (zaM (off := 0) rfl rfl (by kernel_rfl)) fun a E => ?_; refine Vv E (pko H 0) fun a E => ?_; refine Vv E pkm fun a E => ?_; refine Vv E pkm fun a E => ?_; refine Vv E (zaK rfl rfl rfl rfl (zdf (by omega) (by omega))) fun a E => ?_; refine Vv E (zeq (sz := 1) (hi := k.length) rfl (by kernel_rfl) rfl rfl (by omega) hcap) fun a E => ?_
 rw [sub_zero] at E
 refine Vv E (zbF rfl rfl) fun a E => ?_; refine Vv E (zaM (off := 0) rfl rfl (by kernel_rfl)) fun a E => ?_; refine Ws 0 (new := [.one _]) E H fun w H => ?_; replace H : Sep _ _ _ _ [_, _] _ := H; refine Vn ?_; refine Vr ?_; refine Vv E pkm fun a E => ?_; refine Vv E pka fun a E => ?_; refine Vv E pka fun a E => ?_; refine Vn ?_; refine wp_ret ?_
 repeat (first | refine zat ?_ | refine zap ?_)
 refine zeO rfl E (zbT rfl) (zbT rfl) ?_
 exact ⟨rfl, H⟩
theorem znX {b rc : Nat} {lr : Int} {RA : Option Addr} {k : List Nat} {A0 : Option Addr} {c0 : Nat} (hkl : k.length ≤ 140737488355328) (hrc : rc ≤ 9223372036854775807) {X : List Nat} {w0 : World} (hX : ∀ k ∈ X, k < w0.heap.size) (H0 : Sep X (zbz [.blk b (ca [.one (.slice RA k.length rc), .one (.int .i64 0), .one (.int .i8 lr)]) 107, .row (.slice RA k.length rc) 5 1 k.length (k.map bv)]) w0 w0 [.blk b (ca [.one (.slice RA k.length rc), .one (.int .i64 0), .one (.int .i8 lr)]) 107, .row (.slice RA k.length rc) 5 1 k.length (k.map bv)] []) :
  Calls Tryz.prog 77 #[.pointer (some ⟨b, 0, none⟩), .slice A0 0 c0] w0 fun e w' => e = .returned (.tuple #[.int .i64 0, .nilIface]) ∧ Sep X (zbz [.blk b (ca [.one (.slice RA k.length rc), .one (.int .i64 0), .one (.int .i8 lr)]) 107, .row (.slice RA k.length rc) 5 1 k.length (k.map bv)]) w0 w' [.blk b (ca [.one (.slice RA k.length rc), .one (.int .i64 0), .one (.int .i8 0)]) 107, .row (.slice RA k.length rc) 5 1 k.length (k.map bv)] [] := by
 refine zaz Tryz.ntmps77 Tryz.func77 rfl rfl fun a E => ?_; replace E : Env a _ [(0, _), (1, _)] := E
 have H := H0
 have hcap : k.length ≤ rc := zkW (H0.holds _ (by simp) : (Res.row (.slice RA k.length rc) 5 1 k.length (k.map bv)).holds w0)
 have hH := H0
 refine Vr ?_; refine Vv E pka fun a E => ?_; refine Vv E pka fun a E => ?_; refine Vn ?_; refine Vr ?_; refine Vv E pkm fun a E => ?_; refine Vv E (zbF rfl rfl) fun a E => ?_; refine Vv E (zaM (off := 2) rfl rfl (by kernel_rfl)) fun a E => ?_; refine Ws 0 (new := [.one _]) E H fun w H => ?_; replace H : Sep _ _ _ _ [_, _] _ := H; refine Vn ?_; refine Vr ?_; refine Vv E pkm fun a E => ?_; refine Vv E pkm fun a E => ?_; refine Vv E pkn fun a E => ?_; refine Ve E ?_; refine Vc E ?_; refine (znW (b := b) (k := k) (rc := rc) (RA := RA) hkl hrc (Sep.giveA (L1 := [_, _]) (L := []) H).xlt (Sep.giveA (L1 := [_, _]) (L := []) H)).mono ?_; rintro e w ⟨rfl, H1⟩
 replace H := Sep.callA (L1 := [_, _]) (L := []) H H1
 clear H1; replace H : Sep _ _ _ _ [_, _] [] := H; refine Vp E fun a E => ?_; refine Vv E pkm fun a E => ?_; refine Vv E pkx fun a E => ?_; refine Vv E pkx fun a E => ?_; refine Vv E pka fun a E => ?_; refine Vv E pka fun a E => ?_; refine Vn ?_; refine wp_seq_k fun K3 hK3 => ?_; refine Vr ?_; refine Vv E pkm fun a E => ?_; refine Vv E (zkf rfl rfl) fun a E => ?_; refine Vn ?_; refine zaN E rfl ?_; refine wp_skip ?_; refine hK3 _ _ ?_; refine Vr ?_
 refine Vv E pkm fun a E => ?_; refine Vv E (zbF rfl rfl) fun a E => ?_; refine Vv E (zaM (off := 0) rfl rfl (by kernel_rfl)) fun a E => ?_; refine Vv E (pko H 0) fun a E => ?_; refine Vv E pkm fun a E => ?_; refine Vv E (zdS (sz := 1) (lo := k.length) rfl (by kernel_rfl) rfl rfl rfl (jV _)) fun a E => ?_; refine Vv E pkm fun a E => ?_; refine Ve E ?_; refine zug E rfl rfl rfl (by kernel_rfl) ?_; refine Vp E fun a E => ?_; refine Vv E pka fun a E => ?_
 refine Vv E pka fun a E => ?_; refine Vn ?_; refine wp_ret ?_
 repeat (first | refine zat ?_ | refine zap ?_)
 refine zeO rfl E (zbT rfl) (zbT rfl) ?_
 exact ⟨rfl, H⟩
end
section
open Go.Shelf
def zo3 : Go.Shelf.Ren := ⟨fun | 180 => 77 | 251 => 106 | 252 => 107 | 181 => 127 | 184 => 128 | 290 => 129 | 324 => 136 | n => n, fun | 130 => 142 | 37 => 24 | 3 => 3 | 75 => 109 | 0 => 0 | 93 => 107 | 91 => 105 | 131 => 143 | 4 => 4 | 20 => 20 | 5 => 5 | 80 => 180 | 9 => 9 | n => n, fun | 14 => 0 | n => n⟩
theorem zzB : Go.Proofs.LaysM.n180 Tryz.prog zo3 := {
 mixed := by kernel_rfl
 f180 := Tryz.func77.trans (congrArg some (by kernel_rfl))
 f181 := Tryz.func127.trans (congrArg some (by kernel_rfl))
 f184 := Tryz.func128.trans (congrArg some (by kernel_rfl))
 f251 := Tryz.func106.trans (congrArg some (by kernel_rfl))
 f252 := Tryz.func107.trans (congrArg some (by kernel_rfl))
 f290 := Tryz.func129.trans (congrArg some (by kernel_rfl))
 f324 := Tryz.func136.trans (congrArg some (by kernel_rfl))
 t0 := Tryz.underlying0
 a0 := Tryz.isAgg0
 z0 := Tryz.sizeOf0
 v0 := Tryz.zeroValue0
 t3 := Tryz.underlying3
 a3 := Tryz.isAgg3
 z3 := Tryz.sizeOf3
 v3 := Tryz.zeroValue3
 t4 := Tryz.underlying4
 a4 := Tryz.isAgg4
 z4 := Tryz.sizeOf4
 v4 := Tryz.zeroValue4
 t20 := Tryz.underlying20
 a20 := Tryz.isAgg20
 z20 := Tryz.sizeOf20
 v20 := Tryz.zeroValue20
 t37 := Tryz.underlying24
 a37 := Tryz.isAgg24
 z37 := Tryz.sizeOf24
 v37 := Tryz.zeroValue24
 t75 := Tryz.underlying109
 a75 := Tryz.isAgg109
 z75 := Tryz.sizeOf109
 v75 := Tryz.zeroValue109
 t91 := Tryz.underlying105
 a91 := Tryz.isAgg105
 z91 := Tryz.sizeOf105
 v91 := Tryz.zeroValue105
 t93 := Tryz.underlying107
 a93 := Tryz.isAgg107
 z93 := Tryz.sizeOf107
 v93 := Tryz.zeroValue107
 t130 := Tryz.underlying142
 a130 := Tryz.isAgg142
 z130 := Tryz.sizeOf142
 v130 := Tryz.zeroValue142
 t131 := Tryz.underlying143
 a131 := Tryz.isAgg143
 z131 := Tryz.sizeOf143
 v131 := Tryz.zeroValue143
 g14 := by kernel_rfl
 t5 := Tryz.underlying5
 a5 := Tryz.isAgg5
 z5 := Tryz.sizeOf5
 v5 := Tryz.zeroValue5
 t9 := Tryz.underlying9
 a9 := Tryz.isAgg9
 z9 := Tryz.sizeOf9
 v9 := Tryz.zeroValue9
 t80 := Tryz.underlying180
 a80 := Tryz.isAgg180
 z80 := Tryz.sizeOf180
 v80 := Tryz.zeroValue180
 i0 := by kernel_rfl
 i3 := by kernel_rfl
 i4 := by kernel_rfl
 i5 := by kernel_rfl
 i9 := by kernel_rfl
 i20 := by kernel_rfl
 i37 := by kernel_rfl
 i75 := by kernel_rfl
 i80 := by kernel_rfl
 i91 := by kernel_rfl
 i93 := by kernel_rfl
 i130 := by kernel_rfl
 i131 := by kernel_rfl
 m14 := by kernel_rfl }
def zo4 : Go.Shelf.Ren := ⟨fun | 183 => 79 | n => n, fun | 130 => 142 | 37 => 24 | 0 => 0 | 93 => 107 | 3 => 3 | 5 => 5 | 91 => 105 | n => n, fun | n => n⟩
theorem zzC : Go.Proofs.LaysM.n183 Tryz.prog zo4 := {
 mixed := by kernel_rfl
 f183 := Tryz.func79.trans (congrArg some (by kernel_rfl))
 t0 := Tryz.underlying0
 a0 := Tryz.isAgg0
 z0 := Tryz.sizeOf0
 v0 := Tryz.zeroValue0
 t3 := Tryz.underlying3
 a3 := Tryz.isAgg3
 z3 := Tryz.sizeOf3
 v3 := Tryz.zeroValue3
 t37 := Tryz.underlying24
 a37 := Tryz.isAgg24
 z37 := Tryz.sizeOf24
 v37 := Tryz.zeroValue24
 t93 := Tryz.underlying107
 a93 := Tryz.isAgg107
 z93 := Tryz.sizeOf107
 v93 := Tryz.zeroValue107
 t130 := Tryz.underlying142
 a130 := Tryz.isAgg142
 z130 := Tryz.sizeOf142
 v130 := Tryz.zeroValue142
 t5 := Tryz.underlying5
 a5 := Tryz.isAgg5
 z5 := Tryz.sizeOf5
 v5 := Tryz.zeroValue5
 t91 := Tryz.underlying105
 a91 := Tryz.isAgg105
 z91 := Tryz.sizeOf105
 v91 := Tryz.zeroValue105
 i0 := by kernel_rfl
 i3 := by kernel_rfl
 i5 := by kernel_rfl
 i37 := by kernel_rfl
 i91 := by kernel_rfl
 i93 := by kernel_rfl
 i130 := by kernel_rfl }
end
section
open Go.RowKit
def zrv (B b : Nat) (k : List Nat) (w : World) : Prop := Lib.IsBuffer 107 5 B b (k.map bv) w
def zcp (ts : List (List Nat)) : List Nat := ts.flatMap fun t => beL 2 t.length ++ t
def zeg (m : List Nat) (ts : List (List Nat)) : List Nat × Int := if ∀ t ∈ ts, t.length ≤ 65535 then (m ++ zcp ts, 0) else ([], 4)
theorem zeh (n : Nat) : (beL 2 n).length = 2 := by simp [beL, beK]
theorem znY {ts : List (List Nat)} {i : Nat} {t : List Nat} (h : ts[i]? = some t) : zcp (ts.take (i + 1)) = zcp (ts.take i) ++ beL 2 t.length ++ t := by
 unfold zcp
 rw [List.take_add_one, h, List.flatMap_append]
 simp
theorem zeM (ts : List (List Nat)) (h : ∀ t ∈ ts, t.length ≤ 65535) : (zcp ts).length ≤ 65537 * ts.length := by
 induction ts with
 | nil => simp [zcp]
 | cons t ts ih =>
  have h1 := ih fun x hx => h x (List.mem_cons_of_mem _ hx)
  have h2 := h t (List.mem_cons_self ..)
  have h3 : (beL 2 t.length).length = 2 := by simp [beL, beK]
  have e : zcp (t :: ts) = beL 2 t.length ++ t ++ zcp ts := by simp [zcp]
  rw [e, jQ, jQ, h3, List.length_cons]
  omega
theorem zjP (ts : List (List Nat)) (h : ∀ t ∈ ts, ∀ x ∈ t, x < 256) : ∀ x ∈ zcp ts, x < 256 := fun x hx => by
 obtain ⟨t, ht, hx⟩ := List.mem_flatMap.1 hx
 rcases List.mem_append.1 hx with h1 | h1
 ·exact zmS _ _ x h1
 ·exact h t ht x h1
section
variable {X : List Nat} {w0 w w' : World} {L : List Res} {R : List (World → Prop)} {B b c : Nat} {k m : List Nat} {A : Option Addr} {Y : List Nat}
theorem zA2 (h : zrv B b k w) (hX : ∀ i ∈ X, i < B) : St (zrv B b k) w X := fun w2 hk => by
 obtain ⟨hB, v, lr, hb, hrow, hne⟩ := h
 refine ⟨hB, v, lr, (hk b (jM hb) fun hm => by have := hX b hm; omega).trans hb, ⟨hrow.1, ?_⟩, hne⟩
 rcases hrow.2 with h2 | ⟨g, cap, cur, rfl, h3, hh, h4⟩
 ·exact .inl h2
 ·exact .inr ⟨g, cap, cur, rfl, h3, (hk g (jM hh) fun hm => by have := hX g hm; omega).trans hh, h4⟩
theorem zuh (hX : ∀ i ∈ X, i < w0.heap.size) (hb : Below w0.heap.size w0 w) (h : zrv w0.heap.size b k w) (hf : ∀ r ∈ R, St r w0 X) : Sep X [] w0 w [] (zrv w0.heap.size b k :: R) :=
 ⟨Frm.of_below hb, hX, fun _ h => (by cases h), List.nodup_nil, fun _ h => (by cases h), fun r hr => by
  rw [zbz, List.append_nil]
  rcases List.mem_cons.1 hr with rfl | hr
  ·exact zA2 h hX
  ·exact (hf r hr).step hb.size (fun i hi _ => hb.block i hi) fun i hi => .inl hi⟩
theorem zrw (H : Sep X [] w0 w (.blk b (ca [.one (.slice none 0 0), .one (.int .i64 0), .one (.int .i8 0)]) 107 :: L) R) : Sep X [] w0 w L (zrv w0.heap.size b [] :: R) := by
 have hm : w0.heap.size ≤ b := by
  rcases H.mine b (by simp [zbz, Res.keys]) with h | h
  ·cases h
  ·exact h
 have hf := H.freezeX (Sep.new_x H)
 refine hf.pop.know ((hf.facts _ (List.mem_cons_self ..)).imp fun w2 h => ⟨hm, .slice none 0 0, 0, h, World.ownsRow_nil _ _ _ _, by simp [Value.ownBlock]⟩)
theorem zf4 (H : Sep X [] w0 w [] (zrv w0.heap.size b k :: R)) (hf : ∀ r ∈ R, St r w0 X) (hm : TxF A c m w) (hne : m ≠ [] → ∀ ad, A = some ad → ad.block ≠ b) (hl : k.length + m.length ≤ 140737488355328) :
  Calls Tryz.prog 77 #[.pointer (some ⟨b, 0, none⟩), .slice A m.length c] w fun e w' => ∃ z, e = .returned z ∧ Sep X [] w0 w' [] (zrv w0.heap.size b (k ++ m) :: R) := by
 have hI : zrv w0.heap.size b k w := (H.facts _ (List.mem_cons_self ..)).now
 have hB := H.frm.below
 by_cases h0 : m = []
 ·subst h0
  obtain ⟨hb, v, lr, hh, hrow, hne2⟩ := hI
  have hrow' := hrow
  rw [List.length_map] at hrow'
  obtain ⟨RA, rc, hv, hrc⟩ : ∃ RA rc, v = .slice RA k.length rc ∧ rc ≤ 9223372036854775807 := by
   rcases hrow'.2 with ⟨h1, h2⟩ | ⟨g, cap, cur, h1, h3, _, _, h5, _⟩
   ·exact ⟨none, 0, by rw [h1, h2], by omega⟩
   ·exact ⟨_, _, h1, by unfold maxLen at h5; omega⟩
  subst hv
  have hap : ∀ g, (Value.slice RA k.length rc).ownBlock = some g → g ≠ b ∧ w0.heap.size ≤ g := fun g hg => ⟨fun e => hne2 (by rw [hg, e]), (World.ownsRow.lt hrow' g hg).1⟩
  have HS : Sep [] (zbz [.blk b (ca [.one (.slice RA k.length rc), .one (.int .i64 0), .one (.int .i8 lr)]) 107, .row (.slice RA k.length rc) 5 1 k.length (k.map bv)]) w w [.blk b (ca [.one (.slice RA k.length rc), .one (.int .i64 0), .one (.int .i8 lr)]) 107, .row (.slice RA k.length rc) 5 1 k.length (k.map bv)] [] :=
   ⟨Frm.refl _ _, fun _ h => (by cases h), fun r hr => by
    simp only [List.mem_cons, List.not_mem_nil, or_false] at hr
    rcases hr with rfl | rfl
    ·exact hh
    ·refine ⟨hrow'.1, ?_⟩
     rcases hrow'.2 with h2 | ⟨g, cap, cur, h1, h3, h4⟩
     ·exact .inl h2
     ·exact .inr ⟨g, cap, cur, h1, Nat.zero_le _, h4⟩, by
    cases hq : (Value.slice RA k.length rc).ownBlock with
    | none => simp [zbz, Res.keys, hq]
    | some g => have := (hap g hq).1; simp [zbz, Res.keys, hq, Ne.symm this], fun k hk => .inl hk, fun _ h => (by cases h)⟩
  refine (znX (k := k) (by simpa using hl) hrc (fun _ h => by cases h) HS).mono ?_
  rintro e w2 ⟨rfl, H2⟩
  refine ⟨_, rfl, ?_⟩
  rw [List.append_nil]
  have hlt := hB.size
  refine zuh H.xlt ⟨H2.frm.os.trans hB.os, H2.frm.tape.trans hB.tape, H2.frm.output.trans hB.output, jU hlt H2.frm.size, fun i hi => (H2.frm.block i (by omega) fun hm => ?_).trans (hB.block i hi)⟩ ⟨hb, .slice RA k.length rc, 0, H2.holds (.blk b (ca [.one (.slice RA k.length rc), .one (.int .i64 0), .one (.int .i8 0)]) 107) (by simp), ?_, hne2⟩ hf
  ·simp only [zbz, Res.keys, List.mem_append, List.mem_singleton, Option.mem_toList, List.not_mem_nil, or_false] at hm
   rcases hm with h | h
   ·omega
   ·have := (hap i h).2; omega
  ·have h2 : w2.ownsRow 0 5 1 (.slice RA k.length rc) k.length (k.map bv) := H2.holds (.row (.slice RA k.length rc) 5 1 k.length (k.map bv)) (by simp)
   rw [List.length_map]
   refine ⟨h2.1, ?_⟩
   rcases h2.2 with h3 | ⟨g, cap, cur, h1, h3, h4⟩
   ·exact .inl h3
   ·exact .inr ⟨g, cap, cur, h1, (hap g (by rw [h1]; rfl)).2, h4⟩
 ·have hpos : 0 < m.length := List.length_pos_iff.2 h0
  cases A with
  | none => have := (hm.nil rfl).1; omega
  | some ad =>
   have h := Any.Buffer_Write_any zzB w0.heap.size b (k.map bv) (m.map bv) ad m.length c w hI hB.size (fun v hv => by obtain ⟨z, _, rfl⟩ := List.mem_map.1 hv; rfl) (by simp) (hne h0 ad rfl)
    (by have := zfM (m := m.length) hm ad rfl; rwa [List.take_length] at this) (fun v hv => by obtain ⟨z, _, rfl⟩ := List.mem_map.1 hv; rfl) (by simpa using hl)
   refine Calls.mono h ?_
   rintro e w2 ⟨rfl, h1, h2, -⟩
   refine ⟨_, rfl, zuh H.xlt (hB.trans h2) ?_ hf⟩
   unfold zrv
   rw [List.map_append]
   exact h1
theorem znZ (H : Sep X [] w0 w [] (zrv w0.heap.size b k :: R)) (hf : ∀ r ∈ R, St r w0 X) (hl : k.length ≤ 140737488355328) (hk : ∀ x ∈ k, x < 256) :
  Calls Tryz.prog 79 #[.pointer (some ⟨b, 0, none⟩)] w fun e w' => ∃ A' c', e = .returned (.slice A' k.length c') ∧ Sep X [] w0 w' [] [TxF A' c' k] := by
 have hI : zrv w0.heap.size b k w := (H.facts _ (List.mem_cons_self ..)).now
 have h := Any.Buffer_Bytes zzC w0.heap.size b (k.map bv) w hI
 refine Calls.mono h ?_
 rintro e w2 ⟨v, rfl, h1, n, rfl⟩
 have h1' : (w.drewN n).ownsRow w0.heap.size 5 1 v k.length (k.map bv) := by have := h1; rwa [List.length_map] at this
 have hb : Below w0.heap.size w0 (w.drewN n) := H.frm.below.trans ⟨rfl, rfl, rfl, jV _, fun _ _ => rfl⟩
 obtain ⟨A', c', rfl, h2⟩ := zfg (X := X) (w0 := w0) (k := k) H.xlt h1' hb
 exact ⟨A', c', rfl, h2.rowTx (Sep.new_x h2) hl hk⟩
theorem zwi (hX : ∀ i ∈ X, i < w0.heap.size) {n : Nat} (hn : n < 18446744073709551616) :
  Calls Tryz.prog 78 #[.slice none 0 0, .int .i64 2, .int .u64 ((n : Nat) : Int)] w0 fun e w' => ∃ A' c', e = .returned (.slice A' (beL 2 n).length c') ∧ Sep X [] w0 w' [] [TxF A' c' (beL 2 n)] ∧ ∀ q, q < w0.heap.size → ∀ ad, A' = some ad → ad.block ≠ q := by
 refine (zrY (.slice none 0 0) [] w0.heap.size 2 n (by omega) hn (by decide) w0 Own.nil_ (jV _)).mono ?_
 rintro e w2 ⟨⟨v, rfl, ho⟩, hb⟩
 rw [List.nil_append] at ho
 have hlt := ho.lt
 obtain ⟨A', c', rfl, h2⟩ := zfg (X := X) hX ho hb
 refine ⟨A', c', rfl, h2.rowTx (Sep.new_x h2) (by simp [beL, beK]) (zmS _ _), fun q hq ad hA e => ?_⟩
 subst hA
 have h3 := ho.2
 rcases h3 with ⟨h4, _⟩ | ⟨g, cap, cur, h4, h5, _⟩
 ·cases h4
 ·injection h4 with h4
  injection h4 with h4
  subst h4
  simp only at e
  omega
end
theorem zmB {A TA : Option Addr} {c0 tc : Nat} {m0 : List Nat} {ts : List (List Nat)} {tm : Nat → zav.μ} (hm0 : m0.length ≤ 100000000) (hts : ts.length ≤ 1000000) {X : List Nat} {w0 : World} (hX : ∀ k ∈ X, k < w0.heap.size) (hA : St (TxF A c0 m0) w0 X) (hL : St (LiF zav TA tc ts tm) w0 X) :
  Calls Tryz.prog 52 #[.slice A m0.length c0, .slice TA ts.length tc] w0 fun e w' => ∃ A' c', e = .returned (.tuple #[.slice A' (zeg m0 ts).1.length c', .int .i64 (zeg m0 ts).2]) ∧ Sep X [] w0 w' [] [TxF A' c' (zeg m0 ts).1] := by
 refine zaz Tryz.ntmps52 Tryz.func52 rfl rfl fun a E => ?_; replace E : Env a _ [(0, _), (1, _)] := E
 have H : Sep X [] w0 w0 [] [(TxF A c0 m0), (LiF zav TA tc ts tm)] := Sep.start hX (jJ.2 ⟨hA, jJ.2 ⟨hL, fun _ h => by cases h⟩⟩)
 refine Vr ?_; refine Vv E pka fun a E => ?_; refine Vv E pka fun a E => ?_; refine Vn ?_; refine Vr ?_; refine Wa (z := [.one (.slice none 0 0), .one (.int .i64 0), .one (.int .i8 0)]) E H fun b6 w a H E => ?_
 replace H := zrw H
 replace H : Sep _ _ _ _ [] [_, _, _] := H
 have hb6 : w0.heap.size ≤ b6 := (St.now (H.fact 0 rfl)).1
 refine Vn ?_; refine Vr ?_; refine Vv E pkm fun a E => ?_; refine Ve E ?_; refine Vc E ?_
 have HB := H.refacts (R' := [_, _, _]) (jJ.2 ⟨H.fact 0 rfl, jJ.2 ⟨H.fact 1 rfl, jJ.2 ⟨H.fact 2 rfl, jK _⟩⟩⟩)
 refine (zf4 (k := []) HB (jJ.2 ⟨hA, jJ.2 ⟨hL, jK _⟩⟩) (St.now (H.fact 1 rfl)) (fun hne0 ad hA2 => by obtain ⟨z, hz⟩ := List.exists_mem_of_ne_nil _ hne0; obtain ⟨q, hq⟩ := List.mem_iff_getElem?.1 hz; have h1 := World.block_lt_of_cell? _ _ (hA.now.at_ ad hA2 q z hq); rw [zdQ] at h1; omega) (by simp only [List.length_nil]; omega)).mono ?_; rintro e w ⟨z24, rfl, H1⟩
 replace H := H1
 clear H1; replace H : Sep _ _ _ _ [] [_, _, _] := H; refine Vp E fun a E => ?_; clear HB; refine Vn ?_; refine wp_seq_k fun K3 hK3 => ?_; refine Vr ?_; refine Vv E pkm fun a E => ?_; refine Vv E pkn fun a E => ?_; refine Vv E pkm fun a E => ?_; refine Vn ?_; refine wp_block ?_
 refine zbC (γ := Nat) [6, 11, 12] (fun i => [(13, .int .i64 (i : Int))]) (fun i => []) (fun i => [zrv w0.heap.size b6 (m0 ++ zcp (ts.take i)), TxF A c0 m0, LiF zav TA tc ts tm]) (fun i => i ≤ ts.length ∧ ∀ t ∈ ts.take i, t.length ≤ 65535) (fun i => ts.length - i) (0) E (by show Sep _ _ _ _ [] [zrv _ _ (m0 ++ zcp (ts.take 0)), _, _]; rw [jI, show zcp [] = [] from rfl, List.append_nil]; exact H) (by repeat (first | exact trivial | refine ⟨rfl, ?_⟩)) (⟨Nat.zero_le _, fun t ht => by simp at ht⟩) ?_; clear E H; intro i a w E H hφ; replace E : Env a _ [(13, _), (6, _), (11, _), (12, _)] := E; replace H : Sep _ _ _ _ [] [_, _, _] := H
 obtain ⟨hφ, hsm⟩ := hφ
 refine Vr ?_; refine Vv E pki fun a E => ?_; refine Vn ?_; refine wp_seq_k fun K6 hK6 => ?_; refine zau (d := 14) E rfl ?_ ?_
 ·skip
  clear E; intro c14 E
  have hi : i < ts.length := by have := c14; simp only [jS] at this; omega
  have hx0 : ts[i]? = some ts[i] := jP hi
  obtain ⟨adi, hti⟩ := LiF.get hL hx0
  obtain ⟨_, hti⟩ := hti
  have hel : (m0 ++ zcp (ts.take i)).length = m0.length + (zcp (ts.take i)).length := jQ ..
  have hel2 := zeM (ts.take i) hsm
  rw [List.length_take] at hel2
  refine za7 E rfl ?_; refine wp_skip ?_; refine hK6 _ _ ?_; refine wp_seq_k fun K7 hK7 => ?_; refine wp_block ?_; refine Vr ?_
  obtain ⟨ad15, hA15, hc15, hn15⟩ := LiF.get (A := TA) (T := zav) (i := i) (x := ts[i]) (by exact H.fact 2 rfl) hx0
  refine Vv E (zb7 (sz := 1) hA15 rfl (by kernel_rfl) rfl rfl rfl (by omega)) fun a E => ?_
  replace H := (H.know hn15).know hc15
  clear hn15 hc15; replace H : Sep _ _ _ _ _ [_, _, _, _, _] := H; refine Vv E (zcB (H.fact 0 rfl) (fun _ _ _ => trivial) rfl rfl rfl (by kernel_rfl)) fun a E => ?_; refine Vv E pka fun a E => ?_; refine Vn ?_; refine wp_seq_k fun K9 hK9 => ?_; refine Vr ?_; refine Vv E pkm fun a E => ?_; refine Vv E pkn fun a E => ?_; refine Vv E pki fun a E => ?_; refine Vn ?_; refine zau (d := 19) E rfl ?_ ?_
  ·skip
   clear E; intro c19 E
   have hbig : ¬ ts[i].length ≤ 65535 := by have := c19; simp only [jS] at this; omega
   have htv : zeg m0 ts = ([], 4) := by unfold zeg; rw [if_neg (fun h => hbig (h _ (List.getElem_mem hi)))]
   refine za7 E rfl ?_; refine Vr ?_; refine Vv E pka fun a E => ?_; refine Vv E pka fun a E => ?_; refine Vn ?_; refine wp_ret ?_
   repeat (first | refine zat ?_ | refine zap ?_)
   refine zeO rfl E (zbT rfl) (zbT rfl) ?_
   rw [htv]
   exact ⟨none, 0, rfl, (H.know zbw).refacts (jJ.2 ⟨zbw, jK _⟩)⟩
  ·skip
   clear E; intro c19 E
   have hle : ts[i].length ≤ 65535 := by have := c19; simp only [decide_eq_false_iff_not] at this; omega
   refine zaN E rfl ?_; refine wp_skip ?_; refine hK9 _ _ ?_; refine Vr ?_; refine Vv E pkm fun a E => ?_; refine Vv E pkn fun a E => ?_; refine Vv E (zd7 rfl rfl (by kernel_rfl) (by kernel_rfl) (zrS (by omega) (by omega))) fun a E => ?_; refine Ve E ?_; refine Vc E ?_
   have hbl : b6 < w.heap.size := Lib.IsBuffer.lt (St.now (H.fact 2 rfl))
   refine (zwi (n := ts[i].length) H.xk (by omega)).mono ?_; rintro e w ⟨A23, c23, rfl, H1, hq23⟩
   replace H := H.call H1
   clear H1; replace H : Sep _ _ _ _ [] [_, _, _, _, _, _] := H; refine Vp E fun a E => ?_
   have hne23 := hq23 _ hbl
   clear hq23 hbl; refine Ve E ?_; refine Vc E ?_
   have HB := H.refacts (R' := [_, _, _]) (jJ.2 ⟨H.fact 3 rfl, jJ.2 ⟨H.fact 4 rfl, jJ.2 ⟨H.fact 5 rfl, jK _⟩⟩⟩)
   refine (zf4 (k := (m0 ++ zcp (ts.take i))) HB (jJ.2 ⟨hA, jJ.2 ⟨hL, jK _⟩⟩) (St.now (H.fact 0 rfl)) (fun _ => hne23) (by rw [hel, zeh]; omega)).mono ?_; rintro e w ⟨z24, rfl, H1⟩
   replace H := H1
   clear H1; replace H : Sep _ _ _ _ [] [_, _, _] := H; refine Vp E fun a E => ?_; clear HB; refine Vn ?_; refine zaB ?_; refine Vv E pkm fun a E => ?_; refine Ve E ?_; refine Vc E ?_
   have HB := H.refacts (R' := [_, _, _]) (jJ.2 ⟨H.fact 0 rfl, jJ.2 ⟨H.fact 1 rfl, jJ.2 ⟨H.fact 2 rfl, jK _⟩⟩⟩)
   refine (zf4 (k := ((m0 ++ zcp (ts.take i)) ++ beL 2 ts[i].length)) HB (jJ.2 ⟨hA, jJ.2 ⟨hL, jK _⟩⟩) (St.now (hti.2.step H.frm.size (fun q hq _ => H.frm.block q hq (by simp)) (fun q hq => .inl hq))) (fun hne0 ad hA2 => by obtain ⟨z, hz⟩ := List.exists_mem_of_ne_nil _ hne0; obtain ⟨q, hq⟩ := List.mem_iff_getElem?.1 hz; have h1 := World.block_lt_of_cell? _ _ (hti.2.now.at_ ad hA2 q z hq); rw [zdQ] at h1; omega) (by rw [jQ, hel, zeh]; omega)).mono ?_; rintro e w ⟨z24, rfl, H1⟩
   replace H := H1
   clear H1; replace H : Sep _ _ _ _ [] [_, _, _] := H; refine Vp E fun a E => ?_; clear HB; refine hK7 _ _ ?_; refine zaB ?_; refine Vv E (zaK rfl rfl rfl rfl (zdf (by omega) (by omega))) fun a E => ?_; refine Vv E pkm fun a E => ?_
   rw [show (m0 ++ zcp (ts.take i)) ++ beL 2 ts[i].length ++ ts[i] = m0 ++ zcp (ts.take (i + 1)) from by rw [znY hx0]; simp only [List.append_assoc]] at H
   refine za9 ?_
   exact ⟨i + 1, ⟨E.to (by repeat (first | exact trivial | refine ⟨rfl, ?_⟩)), H, ⟨by omega, fun t ht => by rw [List.take_add_one, hx0] at ht; rcases List.mem_append.1 ht with h1 | h1; exact hsm t h1; simp only [Option.toList_some, List.mem_singleton] at h1; subst h1; exact hle⟩⟩, by omega⟩
 ·skip
  clear E; intro c14 E
  obtain rfl : i = ts.length := by have := c14; simp only [decide_eq_false_iff_not] at this; omega
  rw [List.take_length] at H hsm
  have hall := hsm
  have htv : zeg m0 ts = (m0 ++ zcp ts, 0) := by unfold zeg; rw [if_pos hall]
  have hbyte : ∀ x ∈ m0 ++ zcp ts, x < 256 := fun x hx => by
   rcases List.mem_append.1 hx with h1 | h1
   ·exact hA.now.byt x h1
   ·exact zjP ts (fun t ht => by
     obtain ⟨q, hq⟩ := List.mem_iff_getElem?.1 ht
     obtain ⟨_, _, _, h3⟩ := LiF.get hL hq
     exact (St.now h3 : TxF _ _ _ _).byt) x h1
  refine zaN E rfl ?_; refine wp_exit ?_
  repeat (first | refine za4 ?_ | refine za5 ?_ | refine zaW (by decide) ?_)
  refine hK3 _ _ ?_; refine Vr ?_; refine Ve E ?_; refine Vc E ?_; refine (znZ (k := m0 ++ zcp ts) H (jJ.2 ⟨hA, jJ.2 ⟨hL, jK _⟩⟩) (by rw [jQ]; have := zeM ts hall; omega) hbyte).mono ?_; rintro e w ⟨A28, c28, rfl, H1⟩
  replace H := H1
  clear H1; replace H : Sep _ _ _ _ [] [_] := H; refine Vp E fun a E => ?_; refine Vv E pka fun a E => ?_; refine Vv E pka fun a E => ?_; refine Vn ?_; refine wp_ret ?_
  repeat (first | refine zat ?_ | refine zap ?_)
  refine zeO rfl E (zbT rfl) (zbT rfl) ?_
  rw [htv]
  exact ⟨A28, c28, rfl, H⟩
end
section
open Go.RowKit
def zhN : List Nat := [115, 116, 114, 101, 97, 109]
def zzP : List Nat := [115, 117, 109]
def zdh (gt : Nat → Nat) (k : List Nat) : List Nat := zie gt k zhN 28
def zem (gt : Nat → Nat) (k : List Nat) : List Nat := zie gt k zzP 32
def okT (ts : List (List Nat)) : Prop := ∀ t ∈ ts, t.length ≤ 65535
instance (ts : List (List Nat)) : Decidable (okT ts) := by unfold okT; infer_instance
def zgs (gt : Nat → Nat) (sum hid : List Nat) (ts : List (List Nat)) : List Nat := (zer gt sum [zcp ts ++ beL 4 ts.length, hid]).take 16
def zgL (gt : Nat → Nat) (sum hid : List Nat) (ts : List (List Nat)) : List Nat × Int := if okT ts then (zgs gt sum hid ts, 0) else ([], 4)
theorem zfw {m : List Nat} {ts : List (List Nat)} (h : okT ts) : zeg m ts = (m ++ zcp ts, 0) := by unfold zeg; exact if_pos h
theorem ziJ {m : List Nat} {ts : List (List Nat)} (h : ¬ okT ts) : zeg m ts = ([], 4) := by unfold zeg; exact if_neg h
theorem zhm (gt : Nat → Nat) (sum hid : List Nat) (ts : List (List Nat)) : (zgs gt sum hid ts).length = 16 := by unfold zgs; rw [List.length_take, zbt]; rfl
theorem zui (gt : Nat → Nat) (sum hid : List Nat) (ts : List (List Nat)) : ∀ x ∈ zgs gt sum hid ts, x < 256 := fun x hx => zcZ _ _ _ x (List.mem_of_mem_take hx)
attribute [local irreducible] zer zie
section
variable {P : Program} {o : Oper} {a : Act} {w ws : World} {Q : Exit → Act → World → Prop} {N d : Nat} {l : List (Nat × Value)} {v : Value} {S : Nat → Prop} {K : Act → World → Prop} {x y : Operand}
 {X G : List Nat} {w0 : World} {L L' : List Res} {R : List (World → Prop)}
theorem zo5 {b e n : Nat} {C : Array Value} (h : w.heap[b]? = some (.cells C e (0, 0))) : (w.freeze ⟨b, n, none⟩ 1).heap[b]? = some (.cells C e (n, n + 1)) ∧ Frm [b] w (w.freeze ⟨b, n, none⟩ 1) := by
 unfold World.freeze
 rw [if_neg (by decide)]
 refine ⟨?_, rfl, rfl, rfl, by simp, fun k _ hn => ?_⟩
 ·show (w.heap.modify b _)[b]? = _
  rw [Array.getElem?_modify, if_pos rfl, h]
  rfl
 ·show (w.heap.modify b _)[k]? = _
  rw [Array.getElem?_modify, if_neg (fun e => hn (by rw [← e]; exact List.mem_singleton.2 rfl))]
theorem zeA {t e b n c : Nat} {cs : List Chunk} (i : Nat) (E : Env a N l) (H : Sep X [] w0 w L R) (ho : o.op = .convert t t x) (hx : ev l x = some (.slice (some ⟨b, 0, none⟩) n c)) (ht : P.underlying t = some (.slice e)) (he : P.underlying e = some (.int .u8)) (hi : L[i]? = some (.blk b (ca cs) e))
  (hL : L.eraseIdx i = L') (h : ∀ w', Sep X [] w0 w' L' (AtC ⟨b, 0, none⟩ cs :: R) → Frm [b] w w' → K (a.put o.dst (.slice (some ⟨b, 0, none⟩) n c)) w') : o.wp P a w K Q := by
 subst hL
 have hb : w.heap[b]? = some (.cells (ca cs) e (0, 0)) := H.holds _ (List.mem_of_getElem? hi)
 have hsh : w.shape? b = some (e, (ca cs).size) := by unfold World.shape?; rw [hb]
 obtain ⟨h1, h2⟩ := zo5 (n := (ca cs).size) hb
 have hr : (convert t t (.slice (some ⟨b, 0, none⟩) n c)).run P w = .ok (.slice (some ⟨b, 0, none⟩) n c) (w.freeze ⟨b, (ca cs).size, none⟩ 1) := by
  simp [convert, run_underlying ht, run_underlying he, markStringish, hsh]
 unfold Oper.wp execOp
 simp only [ho, E.ev hx, Sem.run_bind, hr, Result.andThen_ok, Sem.run_pure]
 have H1 := (H.at_ i _ hi).turn (q' := .obj b (.cells (ca cs) e ((ca cs).size, (ca cs).size + 1))) h2 h1 (by simp [Res.keys]) (by simp [Res.keys])
 have hf := H1.freezeX (Sep.new_x H1)
 exact h _ (hf.pop.know ((hf.facts _ (List.mem_cons_self ..)).imp fun w2 hw => zhS (t := e) hw)) h2
theorem zqu {t N sz hi : Nat} {ad : Addr} {j : Int} (ho : o.op = .slice t x none (some y) none) (ht : arK P t = some (N, sz)) (hx : ev l x = some (.pointer (some ad))) (hy : ev l y = some (.int .i64 j)) (hj : j = (hi : Int)) (hh : hi ≤ N) : PK P S ws l o (.slice (some ad) hi N) := fun w' _ a _ E => by
 obtain ⟨e, h1, h2⟩ := ziX ht
 unfold execOp
 rw [ho]
 simp only [E.ev hx, E.ev hy, Instr.sliceAt, Instr.sliceBounds, Instr.sureAddr, Option.map_none, Option.map_some, Sem.run_bind, Sem.run_pure, Result.andThen_ok, run_underlying h1, zby h2, zdR hj hh, Nat.zero_mul, zb2, ite_self, Nat.sub_zero]
end
section
variable {X : List Nat} {w0 : World} {A : Option Addr} {c : Nat} {k : List Nat}
theorem zwj (hX : ∀ i ∈ X, i < w0.heap.size) (h : St (TxF A c k) w0 X) (hk : k.length ≤ 100000000000) {n q : Nat} (hn : n < 4294967296) (hq : AtC ⟨q, 0, none⟩ [.one (.int .u64 ((n : Nat) : Int))] w0) :
  Calls Tryz.prog 66 #[.slice A k.length c, .int .i64 4, .slice (some ⟨q, 0, none⟩) 1 1] w0 fun e w' => ∃ A' c', e = .returned (.tuple #[.slice A' (k ++ beL 4 n).length c', .int .i64 0]) ∧ Sep X [] w0 w' [] [TxF A' c' (k ++ beL 4 n)] := by
 have hc : w0.cell? ⟨q, 0, none⟩ = some (.int .u64 ((n : Nat) : Int)) := by have := hq 0 _ rfl; rwa [zb2] at this
 refine (zxZ A k.length c k hk 4 n (by omega) (by omega) (by omega) (by show n < 256 ^ 4; omega) q w0 (World.block_lt_of_cell? _ _ hc) hc h.now.txt).mono ?_
 rintro e w2 ⟨v, rfl, ho, hb⟩
 obtain ⟨A', c', rfl, h2⟩ := zfg (X := X) hX ho hb
 exact ⟨A', c', rfl, h2.rowTx (Sep.new_x h2) (by rw [jQ]; simp [beL, beK]; omega) (fun x hx => by rcases List.mem_append.1 hx with h1 | h1; exact h.now.byt x h1; exact zmS _ _ x h1)⟩
theorem zjQ (n : Nat) (f : Nat → Nat) : arr .u8 n (fun i => ((f i : Nat) : Int)) = ca [.row n fun i => bv (f i)] := by simp [arr, zh7, ca, cl, Chunk.cells, bv]
def zeS (x : List Nat) (l : List Nat) : List Nat := zsw (fun i => ((x.getD i 0 : Nat) : Int)) (fun i => (((x.drop 16).getD i 0 : Nat) : Int)) 0 l
theorem zc2 {x : List Nat} (hx : ∀ z ∈ x, z < 256) (i : Nat) : x.getD i 0 < 256 := by
 rw [jR]
 cases h : x[i]? with
 | none => simp
 | some z => exact hx z (List.mem_of_getElem? h)
theorem zuj (hX : ∀ i ∈ X, i < w0.heap.size) (h : St (TxF A c k) w0 X) (hk : k.length ≤ 1048576) {x : List Nat} (hx : ∀ z ∈ x, z < 256) :
  Calls Tryz.prog 34 #[.agg (ca [.row 16 fun i => bv (x.getD i 0)]), .agg (ca [.row 12 fun i => bv ((x.drop 16).getD i 0)]), .int .u32 0, .slice A k.length c] w0 fun e w' => ∃ A' c', e = .returned (.tuple #[.slice A' (zeS x k).length c', .int .i64 0]) ∧ Sep X [] w0 w' [.row (.slice A' (zeS x k).length c') 5 1 (zeS x k).length ((zeS x k).map bv)] [] := by
 have hn := h.now
 rw [← zjQ, ← zjQ]
 refine (zya (fun i => ((x.getD i 0 : Nat) : Int)) (fun i => (((x.drop 16).getD i 0 : Nat) : Int)) (fun i _ => ⟨by omega, by have := zc2 hx i; omega⟩) (fun i _ => ⟨by omega, by have := zc2 (x := x.drop 16) (fun z hz => hx z (List.mem_of_mem_drop hz)) i; omega⟩) 0 (by omega) A k.length c k w0 hn.txt hn.byt hk (by omega)).mono ?_
 rintro e w2 ⟨v, rfl, ho, hb⟩
 obtain ⟨A', c', rfl, h2⟩ := zfg (X := X) hX ho hb
 exact ⟨A', c', rfl, h2⟩
theorem zfx (x l : List Nat) : (zeS x l).length = l.length := zpz _ _ _ _
theorem zhn (x l : List Nat) : ∀ z ∈ zeS x l, z < 256 := zx7 _ _ _ _
end
theorem zqv {n m : Nat} {k : List Nat} (hk : k.length = n) (hm : m ≤ n) : cl [.row m fun i => bv (k.getD i 0)] = (k.take m).map bv := by
 simp only [cl, Chunk.cells, List.append_nil]
 apply List.ext_getElem?
 intro i
 by_cases hi : i < m
 ·simp [hi, jR, jP (show i < k.length by omega)]
 ·rw [List.getElem?_eq_none (by simp; omega), List.getElem?_eq_none (by simp; omega)]
theorem zkF {k : List Nat} {gt : Nat → Nat} (hk32 : k.length = 32) (hkb : ∀ x ∈ k, x < 256) {X : List Nat} {w0 : World} (hX : ∀ k ∈ X, k < w0.heap.size) (hG : St (AtC ⟨2, 0, none⟩ [.row 64 fun i => u32 (gt i)]) w0 X) :
  Calls Tryz.prog 33 #[.agg (ca [.key k])] w0 fun e w' => ∃ A' c', e = .returned (.tuple #[.agg (ca [.row 16 (fun i => bv ((zdh gt k).getD i 0)), .row 12 (fun i => bv (((zdh gt k).drop 16).getD i 0)), .one (.slice A' (zem gt k).length c')]), .int .i64 0]) ∧ Sep X [] w0 w' [] [TxF A' c' (zem gt k)] := by
 have hlS : (zdh gt k).length = 28 := zeG _ _ _ _
 have hlM : (zem gt k).length = 32 := zeG _ _ _ _
 have hlD : ((zdh gt k).drop 16).length = 12 := by rw [List.length_drop, hlS]
 refine zaz Tryz.ntmps33 Tryz.func33 rfl rfl fun a E => ?_; replace E : Env a _ [(0, _)] := E
 have H : Sep X [] w0 w0 [] [(AtC ⟨2, 0, none⟩ [.row 64 fun i => u32 (gt i)])] := Sep.start hX (jJ.2 ⟨hG, fun _ h => by cases h⟩)
 refine Vr ?_; refine Wb E H fun b1 w a H E => ?_; refine Wa (z := [.row 16 fun _ => .int .u8 0, .row 12 fun _ => .int .u8 0, .one (.slice none 0 0)]) E H fun b2 w a H E => ?_; refine Vv E pka fun a E => ?_; refine Vn ?_; refine Vr ?_; refine Vv E (pkl 32 H 1) fun a E => ?_; refine Ve E ?_
 refine zaP (sz := 1) (z := [.one (.int .u8 0), .one (.int .u8 0), .one (.int .u8 0), .one (.int .u8 0), .one (.int .u8 0), .one (.int .u8 0)]) E H rfl Tryz.underlying24 (by kernel_rfl) (by decide) (by kernel_rfl) ⟨_, [.one _], 0, _, rfl, rfl, rfl, rfl, ⟨_, [.one _], 1, _, rfl, rfl, rfl, rfl, ⟨_, [.one _], 2, _, rfl, rfl, rfl, rfl, ⟨_, [.one _], 3, _, rfl, rfl, rfl, rfl, ⟨_, [.one _], 4, _, rfl, rfl, rfl, rfl, ⟨_, [.one _], 5, _, rfl, rfl, rfl, rfl, rfl⟩⟩⟩⟩⟩⟩ ?_; clear H; intro b7 w H _; refine Vp E fun a E => ?_; refine Ve E ?_; refine zeA 0 E H rfl rfl Tryz.underlying24 Tryz.underlying5 rfl rfl ?_; clear H; intro w H F; replace H : Sep _ _ _ _ [_, _] [_, _] := H; refine Vp E fun a E => ?_; clear F
 refine Ve E ?_; refine Vc E ?_
 have hinf := zbP (k := zhN) (c := 6) (H.fact 0 rfl) rfl (by show 6 ≤ 6; decide) (by show 6 ≤ _; decide) (by decide)
 refine (zhz (n := 28) (k := k) (info := zhN) hk32 hkb (by omega) (by show 6 ≤ 1048576; decide) H.xk hinf (H.fact 1 rfl)).mono ?_; rintro e w ⟨A9, c9, rfl, H1⟩
 replace H := H.call H1
 clear H1; replace H : Sep _ _ _ _ [_, _] [_, _, _] := H; refine Vp E fun a E => ?_; clear hinf; refine Vv E pkm fun a E => ?_; refine Vv E pkx fun a E => ?_; refine Vv E pkx fun a E => ?_; refine Vv E pka fun a E => ?_; refine Vv E pka fun a E => ?_; refine Vn ?_; refine wp_seq_k fun K2 hK2 => ?_; refine Vr ?_; refine Vv E pkm fun a E => ?_; refine Vv E (zbD (v := .bool false) rfl rfl rfl (congrArg (fun b => some (Value.bool b)) (rfl))) fun a E => ?_; refine Vn ?_; refine zaN E rfl ?_
 refine wp_skip ?_; refine hK2 _ _ ?_; refine wp_seq_k fun K4 hK4 => ?_
 rw [show Value.slice A9 28 c9 = .slice A9 (zdh gt k).length c9 from by rw [hlS]] at E
 replace H : Sep _ _ _ _ [_, _] [TxF A9 c9 (zdh gt k), _, _] := H; refine zaB ?_; refine Vv E (zaM (off := 0) rfl rfl (by kernel_rfl)) fun a E => ?_; refine Vv E (zc7 (N := 16) (sz := 1) rfl (by kernel_rfl) rfl) fun a E => ?_; refine Vv E pkm fun a E => ?_; refine Ve E ?_; refine zmQ (k := zdh gt k) (m := 16) (new := [.row 16 fun i => bv ((zdh gt k).getD i 0)]) 0 E H (H.fact 0 rfl) rfl rfl rfl rfl (by kernel_rfl) rfl (by rw [hlS]; rfl) (zqv hlS (by omega)) rfl rfl ?_; clear H; intro w H F; replace H : Sep _ _ _ _ [_, _] _ := H; refine Vp E fun a E => ?_; clear F; refine hK4 _ _ ?_; refine wp_seq_k fun K5 hK5 => ?_
 obtain ⟨A23, c23, h23, hT23⟩ := zeE (lo := 16) (H.fact 0 rfl) (by omega)
 replace H := H.know hT23
 replace H : Sep _ _ _ _ [_, _] [_, _, _, _] := H; refine zbr E H [] 4 [(0, false), (1, false), (2, false), (3, false)] (by kernel_rfl) (by kernel_rfl) (fun w HS => ?_)
 (simp only [canOps, jD, jE, jF, jG])
 clear H
 have H := HS
 have hsz : w.heap.size ≤ w.heap.size := jV _
 have HK : CanB.Keep (fun k => k < w.heap.size ∧ k ∉ []) w w := CanB.Keep.refl _ _
 refine Cw E HK (zaM (off := 16) rfl rfl (by kernel_rfl)) fun a E => ?_; refine Cw E HK (zc7 (N := 12) (sz := 1) rfl (by kernel_rfl) rfl) fun a E => ?_; refine Cw E HK pkm fun a E => ?_; refine Cw E HK (zdS (sz := 1) (lo := 16) rfl (by kernel_rfl) rfl rfl rfl (by omega)) fun a E => ?_
 rw [h23] at E
 refine CanB.wpCan_nil ?_
 try (simp only [jH, jI, jF, jG])
 clear HS HK hsz; refine Ve E ?_; refine zmQ (k := (zdh gt k).drop 16) (m := 12) (new := [.row 12 fun i => bv (((zdh gt k).drop 16).getD i 0)]) 0 E H (H.fact 0 rfl) rfl rfl rfl rfl (by kernel_rfl) rfl (by rw [hlD]; rfl) (zqv hlD (by omega)) rfl rfl ?_; clear H; intro w H F; replace H : Sep _ _ _ _ [_, _] _ := H; refine Vp E fun a E => ?_; clear F; refine hK5 _ _ ?_; refine Vr ?_; refine Vv E (pkl 32 H 1) fun a E => ?_; refine Ve E ?_
 refine zaP (sz := 1) (z := [.one (.int .u8 0), .one (.int .u8 0), .one (.int .u8 0)]) E H rfl Tryz.underlying24 (by kernel_rfl) (by decide) (by kernel_rfl) ⟨_, [.one _], 0, _, rfl, rfl, rfl, rfl, ⟨_, [.one _], 1, _, rfl, rfl, rfl, rfl, ⟨_, [.one _], 2, _, rfl, rfl, rfl, rfl, rfl⟩⟩⟩ ?_; clear H; intro b27 w H _; refine Vp E fun a E => ?_; refine Ve E ?_; refine zeA 0 E H rfl rfl Tryz.underlying24 Tryz.underlying5 rfl rfl ?_; clear H; intro w H F; replace H : Sep _ _ _ _ [_, _] [_, _, _, _, _] := H; refine Vp E fun a E => ?_; clear F; refine Ve E ?_; refine Vc E ?_
 have hinf := zbP (k := zzP) (c := 3) (H.fact 0 rfl) rfl (by show 3 ≤ 3; decide) (by show 3 ≤ _; decide) (by decide)
 refine (zhz (n := 32) (k := k) (info := zzP) hk32 hkb (by omega) (by show 3 ≤ 1048576; decide) H.xk hinf (H.fact 4 rfl)).mono ?_; rintro e w ⟨A29, c29, rfl, H1⟩
 replace H := H.call H1
 clear H1; replace H : Sep _ _ _ _ [_, _] [_, _, _, _, _, _] := H; refine Vp E fun a E => ?_; clear hinf; refine Vv E pkm fun a E => ?_; refine Vv E pkx fun a E => ?_; refine Vv E pkx fun a E => ?_; refine Vv E (zaM (off := 28) rfl rfl (by kernel_rfl)) fun a E => ?_; refine Ws 0 (new := [.one _]) E H fun w H => ?_; replace H : Sep _ _ _ _ [_, _] _ := H; refine Vv E pka fun a E => ?_
 rw [show Value.slice A29 32 c29 = .slice A29 (zem gt k).length c29 from by rw [hlM]] at E H
 replace H : Sep _ _ _ _ [_, _] [TxF A29 c29 (zem gt k), _, _, _, _, _] := H; refine Vn ?_; refine Vr ?_; refine Vv E (pkl 29 H 0) fun a E => ?_; refine Vv E pkm fun a E => ?_; refine Ws 0 E H fun w H => ?_; replace H : Sep _ _ _ _ [_, _] _ := H; refine Vv E pka fun a E => ?_; refine Vn ?_; refine wp_ret ?_
 repeat (first | refine zat ?_ | refine zap ?_)
 refine zeO rfl E (by exact zhT (n := 29) H 0 rfl rfl rfl (by kernel_rfl)) (zbT rfl) ?_
 exact ⟨A29, c29, rfl, (H.refacts (jJ.2 ⟨H.fact 0 rfl, jK _⟩)).popL.popL⟩
theorem zuk {SA HA TA : Option Addr} {sc hc tc : Nat} {sum hid : List Nat} {ts : List (List Nat)} {tm : Nat → zav.μ} {gt : Nat → Nat} {f1 f2 : Nat → Nat} (hs32 : sum.length = 32) (hhl : hid.length ≤ 100000000) (hts : ts.length ≤ 1000) {X : List Nat} {w0 : World} (hX : ∀ k ∈ X, k < w0.heap.size) (hS : St (TxF SA sc sum) w0 X) (hH : St (TxF HA hc hid) w0 X) (hL : St (LiF zav TA tc ts tm) w0 X) (hG : St (AtC ⟨2, 0, none⟩ [.row 64 fun i => u32 (gt i)]) w0 X) :
  Calls Tryz.prog 35 #[.agg (ca [.row 16 (fun i => bv (f1 i)), .row 12 (fun i => bv (f2 i)), .one (.slice SA sum.length sc)]), .slice HA hid.length hc, .slice TA ts.length tc] w0 fun e w' => ∃ A' c', e = .returned (.tuple #[.slice A' (zgL gt sum hid ts).1.length c', .int .i64 (zgL gt sum hid ts).2]) ∧ Sep X [] w0 w' [] [TxF A' c' (zgL gt sum hid ts).1] := by
 refine zaz Tryz.ntmps35 Tryz.func35 rfl rfl fun a E => ?_; replace E : Env a _ [(0, _), (1, _), (2, _)] := E
 have H : Sep X [] w0 w0 [] [(TxF SA sc sum), (TxF HA hc hid), (LiF zav TA tc ts tm), (AtC ⟨2, 0, none⟩ [.row 64 fun i => u32 (gt i)])] := Sep.start hX (jJ.2 ⟨hS, jJ.2 ⟨hH, jJ.2 ⟨hL, jJ.2 ⟨hG, fun _ h => by cases h⟩⟩⟩⟩)
 refine Vr ?_; refine Wb E H fun b3 w a H E => ?_; refine Vv E pka fun a E => ?_; refine Vv E pka fun a E => ?_; refine Vn ?_; refine Vr ?_; refine Vv E pkm fun a E => ?_; refine Ve E ?_; refine Vc E ?_; refine (zmB (m0 := []) (ts := ts) (by show 0 ≤ 100000000; decide) (by omega) H.xk zbw (H.fact 2 rfl)).mono ?_; rintro e w ⟨A13, c13, rfl, H1⟩
 replace H := H.call H1
 clear H1; replace H : Sep _ _ _ _ [_] [_, _, _, _, _] := H; refine Vp E fun a E => ?_; refine Vv E pkm fun a E => ?_; refine Vv E pkx fun a E => ?_; refine Vv E pkx fun a E => ?_; refine Vv E pka fun a E => ?_; refine Vv E pka fun a E => ?_; refine Vn ?_; refine wp_seq_k fun K2 hK2 => ?_; refine Vr ?_; refine Vv E pkm fun a E => ?_; refine Vv E pki fun a E => ?_; refine Vn ?_; refine zau (d := 17) E rfl ?_ ?_
 ·skip
  clear E; intro c17 E
  have hok : ¬ okT ts := fun h => by
   rw [zfw h] at c17
   cases c17
  have htv : zeg [] ts = ([], 4) := ziJ hok
  have htr : zgL gt sum hid ts = ([], 4) := by unfold zgL; rw [if_neg hok]
  refine za7 E rfl ?_; refine Vr ?_; refine Vv E pkm fun a E => ?_; refine Vv E pka fun a E => ?_; refine Vv E pka fun a E => ?_; refine Vn ?_; refine wp_ret ?_
  repeat (first | refine zat ?_ | refine zap ?_)
  refine zeO rfl E (zbT rfl) (zbT rfl) ?_
  rw [htr]
  exact ⟨none, 0, by rw [htv]; rfl, ((H.know zbw).refacts (jJ.2 ⟨zbw, jK _⟩)).popL⟩
 ·skip
  clear E; intro c17 E
  have hok : okT ts := by
   refine Classical.byContradiction fun h => ?_
   rw [ziJ h] at c17
   cases c17
  have htv : zeg [] ts = (zcp ts, 0) := zfw hok
  have htr : zgL gt sum hid ts = (zgs gt sum hid ts, 0) := by unfold zgL; rw [if_pos hok]
  rw [htv] at E H
  simp only at E H
  have hps : ∀ p ∈ [zcp ts ++ beL 4 ts.length, hid], p.length ≤ 100000000 := fun p h => by
   simp only [List.mem_cons, List.not_mem_nil, or_false] at h
   rcases h with rfl | rfl
   ·rw [jQ]; have := zeM ts hok; have h4 : (beL 4 ts.length).length = 4 := by simp [beL, beK]
    omega
   ·exact hhl
  refine zaN E rfl ?_; refine wp_skip ?_; refine hK2 _ _ ?_; refine wp_seq_k fun K5 hK5 => ?_; refine Vr ?_; refine Vv E pkm fun a E => ?_; refine Vv E pkm fun a E => ?_; refine Vv E pkn fun a E => ?_; refine Vv E (zd7 rfl rfl (by kernel_rfl) (by kernel_rfl) (zrS (by omega) (by omega))) fun a E => ?_; refine Ve E ?_; refine zaP (sz := 1) (z := [.one (.int .u64 0)]) E H rfl Tryz.underlying127 (by kernel_rfl) (by decide) (by kernel_rfl) ⟨_, [.one _], 0, _, rfl, rfl, rfl, rfl, rfl⟩ ?_; clear H; intro b24 w H _; refine Vp E fun a E => ?_; refine Ve E ?_
  refine Vc E ?_; refine (zwj (k := zcp ts) (n := ts.length) (q := b24) H.xk (H.fact 0 rfl) (by have := zeM ts hok; omega) (by omega) (zhS (t := 67) (fr := (0, 0)) (H.holds (.blk b24 (ca [.one (.int .u64 ((ts.length : Nat) : Int))]) 67) (by simp)))).mono ?_; rintro e w ⟨A25, c25, rfl, H1⟩
  replace H := H.call H1
  clear H1; replace H : Sep _ _ _ _ [_, _] [_, _, _, _, _, _] := H; refine Vp E fun a E => ?_; refine Vv E pkm fun a E => ?_; refine Vv E pkx fun a E => ?_; refine Vv E pkx fun a E => ?_; refine Vv E pka fun a E => ?_; refine Vv E pka fun a E => ?_; refine Vn ?_; refine Vr ?_; refine Vv E pkm fun a E => ?_; refine Vv E (zbD (v := .bool false) rfl rfl rfl (congrArg (fun b => some (Value.bool b)) (rfl))) fun a E => ?_; refine Vn ?_; refine zaN E rfl ?_; refine wp_skip ?_; refine hK5 _ _ ?_
  refine Vr ?_; refine Vv E (zaM (off := 28) rfl rfl (by kernel_rfl)) fun a E => ?_; refine Vv E (pko H 1) fun a E => ?_; refine Vv E pkm fun a E => ?_; refine Vv E pkm fun a E => ?_; refine Ve E ?_; refine zaP (sz := 1) (z := [.one (.slice none 0 0), .one (.slice none 0 0)]) E H rfl Tryz.underlying25 (by kernel_rfl) (by decide) (by kernel_rfl) ⟨_, [.one _], 0, _, rfl, rfl, rfl, rfl, ⟨_, [.one _], 1, _, rfl, rfl, rfl, rfl, rfl⟩⟩ ?_; clear H; intro b35 w H _; refine Vp E fun a E => ?_; refine Ve E ?_; refine Vc E ?_
  have HB := H.lend 0 rfl
  have hli := zes (T := zav) (its := [((zcp ts ++ beL 4 ts.length, (A25, c25)) : List Nat × zav.μ), (hid, (HA, hc))]) (c := 2) (xs := [zcp ts ++ beL 4 ts.length, hid]) (HB.fact 0 rfl) zid (zaX (its := [_]) (q := ((hid, (HA, hc)) : List Nat × zav.μ)) (zaX (its := []) (q := ((zcp ts ++ beL 4 ts.length, (A25, c25)) : List Nat × zav.μ)) zb3 (HB.fact 1 rfl)) (HB.fact 4 rfl)) rfl (by show 2 ≤ 2; decide) (by show 2 ≤ _; decide)
  have H2 := HB.refacts (R' := [_, _, _]) (jJ.2 ⟨HB.fact 3 rfl, jJ.2 ⟨hli, jJ.2 ⟨HB.fact 6 rfl, jK _⟩⟩⟩)
  clear HB hli; refine (zop (key := sum) (ps := [zcp ts ++ beL 4 ts.length, hid]) (by omega) hps (by show 2 ≤ 900000; decide) H2.xk (H2.fact 0 rfl) (H2.fact 1 rfl) (H2.fact 2 rfl)).mono ?_; rintro e w ⟨rfl, H1⟩
  have F := H1.frm
  replace H := H.grow F
  refine Vp E fun a E => ?_; clear F; clear H2; refine Wa (z := [.key []]) E H fun b10 w a H E => ?_; refine Ws 0 E H fun w H => ?_; replace H : Sep _ _ _ _ [_, _, _, _] _ := H; refine Vn ?_; refine Vr ?_; refine Vv E (zqu (N := 32) (sz := 1) (hi := 16) rfl (by kernel_rfl) rfl rfl rfl (by omega)) fun a E => ?_; refine Vv E pka fun a E => ?_
  refine Vv E pka fun a E => ?_; refine Vn ?_; refine wp_ret ?_
  repeat (first | refine zat ?_ | refine zap ?_)
  refine zeO rfl E (zbT rfl) (zbT rfl) ?_
  have hT := zdN (hi := 16) (zbP (k := zer gt sum [zcp ts ++ beL 4 ts.length, hid]) (c := 32) ((H.lend 0 rfl).fact 0 rfl) (by rw [zcO, zbo (zbt _ _ _)]) (by rw [zbt]; omega) (by rw [zbt]; omega) (zcZ _ _ _)) (by rw [zbt]; omega)
  rw [htr]
  exact ⟨some ⟨b10, 0, none⟩, 32, by simp only [zhm], (((H.lend 0 rfl).know hT).refacts (jJ.2 ⟨((H.lend 0 rfl).know hT).fact 0 rfl, jK _⟩)).popL.popL.popL⟩
end
section
open Go.RowKit
theorem zmC (k : List Nat) (j : Nat) (hj : j < 32) : (zmR k)[j]? = some (k.getD j 0) := by
 unfold zmR
 rw [List.getElem?_map, List.getElem?_range hj]
 rfl
theorem zum {k m : List Nat} : zmR k = zmR m ↔ ∀ i, i < 32 → k.getD i 0 = m.getD i 0 := by
 constructor
 ·intro h i hi
  have h1 := zmC k i hi
  rw [h, zmC m i hi] at h1
  exact (Option.some.inj h1).symm
 ·intro h
  unfold zmR
  exact List.map_congr_left fun i hi => h i (List.mem_range.1 hi)
theorem zcM (k : List Nat) : ca [.key k] = arr .u8 32 fun i => ((k.getD i 0 : Nat) : Int) := by
 rw [zjQ]
 simp only [ca]
 congr 1
section
variable {P : Program} {o : Oper} {a : Act} {w ws : World} {Q : Exit → Act → World → Prop} {N d : Nat} {l : List (Nat × Value)} {v : Value} {S : Nat → Prop} {K : Act → World → Prop} {x y : Operand}
 {X G : List Nat} {w0 : World} {L L' : List Res} {R : List (World → Prop)}
theorem zun {t u : TypeId} {k m : List Nat} (ho : o.op = .binOp .eql t x y u) (hT : zyb P t .u8 32) (hx : ev l x = some (.agg (ca [.key k]))) (hy : ev l y = some (.agg (ca [.key m]))) : PK P S ws l o (.bool (decide (zmR k = zmR m))) := fun w' _ a N E => by
 have h := znh (w := w') (op := .eql) ho hT ((E.ev hx).trans (by rw [zcM])) ((E.ev hy).trans (by rw [zcM]))
 rw [h]
 congr 3
 rw [Bool.eq_iff_iff, decide_eq_true_iff, zum, zko]
 constructor
 ·intro hs i hi; have := hs i hi; rw [Nat.zero_add] at this; omega
 ·intro hs i hi; rw [Nat.zero_add, hs i hi]
theorem zzD {t u : TypeId} {k m : List Nat} (ho : o.op = .binOp .eql t x y u) (hT : zyb P t .u8 32) (hx : ev l x = some (.agg (ca [.key k]))) (hy : ev l y = some (.agg (ca [.key m]))) (h : zmR k = zmR m) : PK P S ws l o (.bool true) := by
 have := zun (S := S) (ws := ws) ho hT hx hy
 rwa [decide_eq_true h] at this
theorem zuo {t n' sz n c : Nat} {A : Option Addr} (ho : o.op = .sliceToArrayPointer t x) (ht : arK P t = some (n', sz)) (hx : ev l x = some (.slice A n c)) (hn : n' ≤ n) : PK P S ws l o (.pointer A) := fun w' _ a _ E => by
 obtain ⟨e, h1, h2⟩ := ziX ht
 unfold execOp
 rw [ho]
 simp only [E.ev hx, Instr.arrayAt, Sem.run_bind, run_underlying h1, Result.andThen_ok]
 rw [if_neg (by omega)]
 rfl
theorem zup {A : Option Addr} {c : Nat} {k : List Nat} {Y : List Nat} (h : St (TxF A c k) w Y) (hk : 32 ≤ k.length) : ∃ ad, A = some ad ∧ St (AtC ad [.key k]) w Y := by
 cases A with
 | none => have := h.now.nil rfl; omega
 | some ad =>
  refine ⟨ad, rfl, fun w' hw j u hu => ?_⟩
  have hT := h w' hw
  rw [zcO, List.getElem?_map] at hu
  by_cases hj : j < 32
  ·rw [zmC k j hj, Option.map_some, Option.some.injEq] at hu
   subst hu
   refine hT.at_ ad rfl j _ ?_
   rw [jR, jP (show j < k.length by omega)]
   rfl
  ·rw [List.getElem?_eq_none (by rw [zpn]; omega)] at hu
   cases hu
theorem zqw {t t' e : TypeId} {s : ByteArray} {k : List Nat} (E : Env a N l) (H : Sep X [] w0 w L R) (ho : o.op = .convert t t' x) (hx : ev l x = some (.string s)) (ht : P.underlying t = some .string) (ht' : P.underlying t' = some (.slice e)) (he : P.underlying e = some (.int .u8)) (hk : s.data.toList.map UInt8.toNat = k) (hl : k.length ≤ 1000)
  (h : ∀ A c w', Sep X [] w0 w' L (TxF A c k :: R) → Frm [] w w' → K (a.put o.dst (.slice A k.length c)) w') : o.wp P a w K Q := by
 have hsz : s.size = k.length := by rw [← hk, List.length_map]; rfl
 have hr := run_bytes_of_string w t t' e s ht ht' he
 obtain ⟨C, hC⟩ : ∃ C, bytesRow s (grownCap w s.size 0 e) = C := ⟨_, rfl⟩
 obtain ⟨g, hg⟩ : ∃ g, grownCap w s.size 0 e = g := ⟨_, rfl⟩
 have hge : s.size ≤ g := by rw [← hg]; exact grownCap_ge w s.size 0 e
 rw [hC, hg] at hr
 have hCk : ∀ i z, k[i]? = some z → C[i]? = some (bv z) := fun i z hi => by
  rw [← hk, List.getElem?_map, Option.map_eq_some_iff] at hi
  obtain ⟨b, hb, rfl⟩ := hi
  have hlt : i < s.data.size := by
   rw [← Array.length_toList]
   exact (List.getElem?_eq_some_iff.1 hb).1
  rw [← hC]
  unfold bytesRow
  rw [Array.getElem?_append_left (by rw [Array.size_map]; exact hlt), Array.getElem?_map, ← Array.getElem?_toList, hb]
  rfl
 unfold Oper.wp execOp
 simp only [ho, E.ev hx, Sem.run_bind, hr, Result.andThen_ok, Sem.run_pure]
 have hf : Frm [] w (w.drew.alloc (.cells C e (C.size, C.size + 1))) := Frm.of_below (((Below.refl _ _).drew).alloc (jV _) _)
 have hH := H.own (q := .obj w.heap.size (.cells C e (C.size, C.size + 1))) hf (heap_alloc_new w.drew _) (by simp [Res.keys]) (by simp [Res.keys])
 have hF := hH.freezeX (Sep.new_x hH)
 have hT : St (TxF (some ⟨w.heap.size, 0, none⟩) g k) (w.drew.alloc (.cells C e (C.size, C.size + 1))) (X ++ zbz L) := (hF.facts _ (List.mem_cons_self ..)).imp fun w2 hw => ⟨by omega, by omega, fun z hz => by
   rw [← hk] at hz
   obtain ⟨b, _, rfl⟩ := List.mem_map.1 hz
   exact b.toNat_lt, (fun hn => by cases hn), fun ad had i z hi => by
   obtain rfl := Option.some.inj had
   rw [zcu]
   unfold World.cell?
   have hw' : w2.heap[w.heap.size]? = some (.cells C e (C.size, C.size + 1)) := hw
   simp only [hw', Nat.zero_add, Option.isSome_none, Bool.false_eq_true, if_false]
   exact hCk i z hi⟩
 rw [hsz]
 exact h _ _ _ (hF.pop.know hT) hf
end
section
variable {P : Program} {o : Oper} {ws : World} {l : List (Nat × Value)} {S : Nat → Prop}
theorem ze7 {ty : TypeId} {parts : Array (Nat × Operand)} {z r : List Chunk} {n : Nat} (cs : List Chunk) (ho : o.op = .build ty parts) (ht : arK P ty = some (n, 1)) (hz : zjX P ty = some (ca z)) (hp : zqI (fun i => some (i * 1, 1)) l parts.toList z r) (hr : ca r = ca cs) : PK P S ws l o (.agg (ca cs)) := fun w' _ a N E => by
 obtain ⟨i, zv, h1, h2, h3⟩ := zfe hz
 obtain ⟨e, h4, h5⟩ := ziX ht
 obtain ⟨ie, h6, h7⟩ := Option.map_eq_some_iff.1 h5
 have hb : P.built ty (parts.toList.map fun (i, x) => (i, a.eval x)) = some (ca cs) := by
  unfold Program.built
  simp only [h1, h4, h2, h6, h3, h7]
  rw [← hr]
  exact zeV E _ _ _ hp
 unfold execOp
 rw [ho]
 simp only [Sem.run_bind]
 rw [run_build w' ty (parts.map fun (i, x) => (i, a.eval x)) _ (by rw [Array.toList_map]; exact hb)]
 rfl
end
end
section
open Go.RowKit
def zgt : List Nat := [99, 111, 116, 101, 114, 105, 101]
def zkG (gt : Nat → Nat) (k lab : List Nat) (ts : List (List Nat)) : List Nat := zie gt k (zcp (zgt :: lab :: ts)) 32
def zn0 (ts : List (List Nat)) : Prop := ts.length ≤ 100 ∧ ∀ t ∈ ts, t.length ≤ 1000
theorem zrx : zn0 [] := ⟨by show 0 ≤ 100; decide, fun t h => by cases h⟩
theorem zn1 {ts : List (List Nat)} (h : zn0 ts) : okT ts := fun t ht => by have := h.2 t ht; omega
theorem zhO : ∀ (ts : List (List Nat)), (∀ t ∈ ts, t.length ≤ 1000) → (zcp ts).length ≤ 1002 * ts.length
 | [], _ => jV _
 | t :: ts, h => by
  have h1 := zhO ts fun t ht => h t (List.mem_cons_of_mem _ ht)
  have h2 := h t (List.mem_cons_self ..)
  show ((beL 2 t.length ++ t) ++ zcp ts).length ≤ _
  rw [jQ, jQ, zeh, List.length_cons]
  omega
theorem zqx (a b : List Nat) (ts : List (List Nat)) : zcp [a, b] ++ zcp ts = zcp (a :: b :: ts) := by
 unfold zcp
 rw [← List.flatMap_append]
 rfl
theorem zmD (gt : Nat → Nat) (k lab : List Nat) (ts : List (List Nat)) : (zkG gt k lab ts).length = 32 := zeG _ _ _ _
theorem zho (gt : Nat → Nat) (k lab : List Nat) (ts : List (List Nat)) : ∀ x ∈ zkG gt k lab ts, x < 256 := zg3 _ _ _ _
theorem zzE {lab : List Nat} (h : lab.length ≤ 100) : okT [zgt, lab] := fun t ht => by
 simp only [List.mem_cons, List.not_mem_nil, or_false] at ht
 rcases ht with rfl | rfl
 ·show 7 ≤ 65535; decide
 ·omega
attribute [local irreducible] zer zie
theorem zhP {s : ByteArray} {TA : Option Addr} {tc : Nat} {k lab : List Nat} {ts : List (List Nat)} {tm : Nat → zav.μ} {gt : Nat → Nat} (hs : s.data.toList.map UInt8.toNat = lab) (hlab : lab.length ≤ 100) (hk32 : k.length = 32) (hkb : ∀ x ∈ k, x < 256) (hts : zn0 ts) {X : List Nat} {w0 : World} (hX : ∀ k ∈ X, k < w0.heap.size) (hL : St (LiF zav TA tc ts tm) w0 X) (hG : St (AtC ⟨2, 0, none⟩ [.row 64 fun i => u32 (gt i)]) w0 X) :
  Calls Tryz.prog 27 #[.agg (ca [.key k]), .string s, .slice TA ts.length tc] w0 fun e w' => e = .returned (.tuple #[.agg (ca [.key (zkG gt k lab ts)]), .int .i64 0]) ∧ Sep X [] w0 w' [] [] := by
 have hst := hts.1
 have hsl := zhO ts hts.2
 have hs2 : (zcp [zgt, lab]).length = 11 + lab.length := by
  show ((beL 2 zgt.length ++ zgt) ++ ((beL 2 lab.length ++ lab) ++ [])).length = _
  rw [jQ, jQ, jQ, jQ, zeh, zeh]
  show 2 + 7 + (2 + lab.length + 0) = _
  omega
 have hln : (zcp [zgt, lab] ++ zcp ts).length ≤ 1048576 := by rw [jQ]; omega
 refine zaz Tryz.ntmps27 Tryz.func27 rfl rfl fun a E => ?_; replace E : Env a _ [(0, _), (1, _), (2, _)] := E
 have H : Sep X [] w0 w0 [] [(LiF zav TA tc ts tm), (AtC ⟨2, 0, none⟩ [.row 64 fun i => u32 (gt i)])] := Sep.start hX (jJ.2 ⟨hL, jJ.2 ⟨hG, fun _ h => by cases h⟩⟩)
 refine Vr ?_; refine Wb E H fun b3 w a H E => ?_; refine Wa (z := [.key []]) E H fun b6 w a H E => ?_; refine Vv E pka fun a E => ?_; refine Vn ?_; refine Vr ?_; refine Ve E ?_
 refine zaP (sz := 1) (z := [.one (.int .u8 0), .one (.int .u8 0), .one (.int .u8 0), .one (.int .u8 0), .one (.int .u8 0), .one (.int .u8 0), .one (.int .u8 0)]) E H rfl Tryz.underlying24 (by kernel_rfl) (by decide) (by kernel_rfl) ⟨_, [.one _], 0, _, rfl, rfl, rfl, rfl, ⟨_, [.one _], 1, _, rfl, rfl, rfl, rfl, ⟨_, [.one _], 2, _, rfl, rfl, rfl, rfl, ⟨_, [.one _], 3, _, rfl, rfl, rfl, rfl, ⟨_, [.one _], 4, _, rfl, rfl, rfl, rfl, ⟨_, [.one _], 5, _, rfl, rfl, rfl, rfl, ⟨_, [.one _], 6, _, rfl, rfl, rfl, rfl, rfl⟩⟩⟩⟩⟩⟩⟩ ?_; clear H; intro b12 w H _; refine Vp E fun a E => ?_; refine Ve E ?_; refine zeA 0 E H rfl rfl Tryz.underlying24 Tryz.underlying5 rfl rfl ?_; clear H; intro w H F; replace H : Sep _ _ _ _ [_, _] [_, _, _] := H; refine Vp E fun a E => ?_; clear F; refine Vv E pkm fun a E => ?_; refine Ve E ?_; refine zqw (k := lab) E H rfl rfl Tryz.underlying9 Tryz.underlying24 Tryz.underlying5 hs (by omega) ?_; clear H; intro A15 c15 w H F; replace H : Sep _ _ _ _ [_, _] [_, _, _, _] := H; refine Vp E fun a E => ?_; clear F; refine Ve E ?_; refine zaP (sz := 1) (z := [.one (.slice none 0 0), .one (.slice none 0 0)]) E H rfl Tryz.underlying25 (by kernel_rfl) (by decide) (by kernel_rfl) ⟨_, [.one _], 0, _, rfl, rfl, rfl, rfl, ⟨_, [.one _], 1, _, rfl, rfl, rfl, rfl, rfl⟩⟩ ?_; clear H; intro b16 w H _; refine Vp E fun a E => ?_
 refine Ve E ?_; refine Vc E ?_
 have HB := H.lend 0 rfl
 have hco := zbP (k := zgt) (c := 7) (HB.fact 2 rfl) rfl (by show 7 ≤ 7; decide) (by show 7 ≤ _; decide) (by decide)
 have hli := zes (T := zav) (its := [((zgt, (some ⟨b12, 0, none⟩, 7)): List Nat × zav.μ), (lab, (A15, c15))]) (c := 2) (xs := [zgt, lab]) (HB.fact 0 rfl) (by rw [← zid]; rfl) (zaX (its := [_]) (q := ((lab, (A15, c15)): List Nat × zav.μ)) (zaX (its := []) (q := ((zgt, (some ⟨b12, 0, none⟩, 7)): List Nat × zav.μ)) zb3 hco) (HB.fact 1 rfl)) rfl (by show 2 ≤ 2; decide) (by show 2 ≤ _; decide)
 have H2 := HB.know hli
 clear H HB hli hco
 have H := H2
 clear H2; replace H : Sep _ _ _ _ [_, _] [_, _, _, _, _, _] := H; refine (zmB (m0 := []) (ts := [zgt, lab]) (by show 0 ≤ 100000000; decide) (by show 2 ≤ 1000000; decide) H.xk zbw (H.fact 0 rfl)).mono ?_; rintro e w ⟨A17, c17, rfl, H1⟩
 replace H := H.call H1
 clear H1; replace H : Sep _ _ _ _ [_, _] [_, _, _, _, _, _, _] := H; refine Vp E fun a E => ?_; refine Vv E pkm fun a E => ?_; refine Vv E pkx fun a E => ?_; refine Vv E pkx fun a E => ?_; refine Vv E pka fun a E => ?_; refine Vv E pka fun a E => ?_
 rw [zfw (zzE hlab)] at E H
 simp only [List.nil_append] at E H
 refine Vn ?_; refine wp_seq_k fun K2 hK2 => ?_; refine Vr ?_; refine Vv E pkm fun a E => ?_; refine Vv E (zbD (v := .bool true) rfl rfl rfl (congrArg (fun b => some (Value.bool b)) (rfl))) fun a E => ?_; refine Vn ?_; refine za7 E rfl ?_; refine zaB ?_; refine Vv E pkm fun a E => ?_; refine Vv E pkm fun a E => ?_; refine Ve E ?_; refine Vc E ?_; refine (zmB (m0 := zcp [zgt, lab]) (ts := ts) (by omega) (by omega) H.xk (H.fact 0 rfl) (H.fact 5 rfl)).mono ?_; rintro e w ⟨A25, c25, rfl, H1⟩
 replace H := H.call H1
 clear H1; replace H : Sep _ _ _ _ [_, _] [_, _, _, _, _, _, _, _] := H; refine Vp E fun a E => ?_; refine Vv E pkm fun a E => ?_; refine Vv E pkx fun a E => ?_; refine Vv E pkx fun a E => ?_; refine Vv E pka fun a E => ?_; refine Vv E pka fun a E => ?_
 rw [zfw (zn1 hts)] at E H
 simp only at E H
 refine hK2 _ _ ?_; refine wp_seq_k fun K4 hK4 => ?_; refine Vr ?_; refine Vv E pkm fun a E => ?_; refine Vv E (zbD (v := .bool false) rfl rfl rfl (congrArg (fun b => some (Value.bool b)) (rfl))) fun a E => ?_; refine Vn ?_; refine zaN E rfl ?_; refine wp_skip ?_; refine hK4 _ _ ?_; refine Vr ?_; refine Vv E (pkl 32 H 1) fun a E => ?_; refine Vv E pkm fun a E => ?_; refine Ve E ?_; refine Vc E ?_; refine (zhz (n := 32) (k := k) (info := (zcp [zgt, lab] ++ zcp ts)) hk32 hkb (by omega) hln H.xk (H.fact 0 rfl) (H.fact 7 rfl)).mono ?_
 rintro e w ⟨A35, c35, rfl, H1⟩
 replace H := H.call H1
 clear H1; replace H : Sep _ _ _ _ [_, _] [_, _, _, _, _, _, _, _, _] := H; refine Vp E fun a E => ?_; refine Vv E pkm fun a E => ?_; refine Vv E pkx fun a E => ?_; refine Vv E pkx fun a E => ?_; refine Vv E pka fun a E => ?_; refine Vv E pka fun a E => ?_; refine Vn ?_; refine wp_seq_k fun K7 hK7 => ?_; refine Vr ?_; refine Vv E pkm fun a E => ?_; refine Vv E (zbD (v := .bool false) rfl rfl rfl (congrArg (fun b => some (Value.bool b)) (rfl))) fun a E => ?_; refine Vn ?_; refine zaN E rfl ?_
 refine wp_skip ?_; refine hK7 _ _ ?_; refine wp_seq_k fun K9 hK9 => ?_
 rw [zqx] at H
 have hX32 : (zie gt k (zcp (zgt :: lab :: ts)) 32).length = 32 := zeG _ _ _ _
 obtain ⟨ad, hA35, hT35⟩ := zup (H.fact 0 rfl) (by omega)
 subst hA35
 replace H := H.know hT35
 clear hT35; replace H : Sep _ _ _ _ [_, _] [_, _, _, _, _, _, _, _, _, _] := H; refine zaB ?_; refine Vv E pkm fun a E => ?_; refine Vv E (zuo (n' := 32) (sz := 1) rfl (by kernel_rfl) rfl (by omega)) fun a E => ?_; refine Vv E (zff (n := 32) (H.fact 0 rfl) (fun _ _ _ => trivial) rfl rfl rfl (by kernel_rfl)) fun a E => ?_; refine Ws 0 E H fun w H => ?_; replace H : Sep _ _ _ _ [_, _] _ := H; refine Vv E pka fun a E => ?_; refine hK9 _ _ ?_; refine wp_ret ?_
 repeat (first | refine zat ?_ | refine zap ?_)
 refine zeO rfl E (by exact zhT (n := 32) H 0 rfl rfl rfl (by kernel_rfl)) (zbT rfl) ?_
 exact ⟨rfl, (H.refacts (R' := []) (jK _)).popL.popL⟩
theorem zjR {s : ByteArray} {k lab : List Nat} {gt : Nat → Nat} (hs : s.data.toList.map UInt8.toNat = lab) (hlab : lab.length ≤ 100) (hk32 : k.length = 32) (hkb : ∀ x ∈ k, x < 256) {X : List Nat} {w0 : World} (hX : ∀ k ∈ X, k < w0.heap.size) (hG : St (AtC ⟨2, 0, none⟩ [.row 64 fun i => u32 (gt i)]) w0 X) :
  Calls Tryz.prog 16 #[.agg (ca [.key k]), .string s] w0 fun e w' => e = .returned (.agg (ca [.key (zkG gt k lab [])])) ∧ Sep X [] w0 w' [] [] := by
 refine zaz Tryz.ntmps16 Tryz.func16 rfl rfl fun a E => ?_; replace E : Env a _ [(0, _), (1, _)] := E
 have H : Sep X [] w0 w0 [] [(AtC ⟨2, 0, none⟩ [.row 64 fun i => u32 (gt i)])] := Sep.start hX (jJ.2 ⟨hG, fun _ h => by cases h⟩)
 refine Vr ?_; refine Wb E H fun b2 w a H E => ?_; refine Wa (z := [.key []]) E H fun b4 w a H E => ?_; refine Vn ?_; refine Vr ?_; refine Vv E (pkl 32 H 1) fun a E => ?_; refine Vv E pkm fun a E => ?_; refine Ve E ?_; refine Vc E ?_
 refine (zhP (k := k) (lab := lab) (ts := []) (tm := fun _ => zav.dft) hs hlab hk32 hkb zrx H.xk zoh (H.fact 0 rfl)).mono ?_; rintro e w ⟨rfl, H1⟩
 replace H := H.call H1
 clear H1; replace H : Sep _ _ _ _ [_, _] [_] := H; refine Vp E fun a E => ?_; refine Vv E pkm fun a E => ?_; refine Vv E pkx fun a E => ?_; refine Vv E pkx fun a E => ?_; refine Wa (z := [.key []]) E H fun b5 w a H E => ?_; refine Ws 0 E H fun w H => ?_; replace H : Sep _ _ _ _ [_, _, _] _ := H
 refine Vv E pka fun a E => ?_; refine Vn ?_; refine wp_seq_k fun K2 hK2 => ?_; refine Vr ?_; refine Vv E pkm fun a E => ?_; refine Vv E (zbD (v := .bool false) rfl rfl rfl (congrArg (fun b => some (Value.bool b)) (rfl))) fun a E => ?_; refine Vn ?_; refine zaN E rfl ?_; refine wp_skip ?_; refine hK2 _ _ ?_; refine Vr ?_; refine Vv E (pkl 32 H 0) fun a E => ?_; refine Ws 1 E H fun w H => ?_; replace H : Sep _ _ _ _ [_, _, _] _ := H; refine Vn ?_; refine wp_ret ?_
 repeat (first | refine zat ?_ | refine zap ?_)
 refine zf8 rfl E (by exact zhT (n := 32) H 1 rfl rfl rfl (by kernel_rfl)) ?_
 exact ⟨rfl, (H.refacts (R' := []) (jK _)).popL.popL.popL⟩
theorem zjS {LA SA : Option Addr} {lc sc : Nat} {salt sec : List Nat} {gt : Nat → Nat} (h64 : salt.length ≤ 64) (hsl : sec.length ≤ 100000000) {X : List Nat} {w0 : World} (hX : ∀ k ∈ X, k < w0.heap.size) (hL : St (TxF LA lc salt) w0 X) (hS : St (TxF SA sc sec) w0 X) (hG : St (AtC ⟨2, 0, none⟩ [.row 64 fun i => u32 (gt i)]) w0 X) :
  Calls Tryz.prog 28 #[.slice LA salt.length lc, .slice SA sec.length sc] w0 fun e w' => e = .returned (.agg (ca [.key (zer gt salt [sec])])) ∧ Sep X [] w0 w' [] [] := by
 refine zaz Tryz.ntmps28 Tryz.func28 rfl rfl fun a E => ?_; replace E : Env a _ [(0, _), (1, _)] := E
 have H : Sep X [] w0 w0 [] [(TxF LA lc salt), (TxF SA sc sec), (AtC ⟨2, 0, none⟩ [.row 64 fun i => u32 (gt i)])] := Sep.start hX (jJ.2 ⟨hL, jJ.2 ⟨hS, jJ.2 ⟨hG, fun _ h => by cases h⟩⟩⟩)
 refine Vr ?_; refine Wa (z := [.key []]) E H fun b4 w a H E => ?_; refine Vn ?_; refine Vr ?_; refine Vv E pkm fun a E => ?_; refine Vv E pkm fun a E => ?_; refine Ve E ?_; refine zaP (sz := 1) (z := [.one (.slice none 0 0)]) E H rfl Tryz.underlying25 (by kernel_rfl) (by decide) (by kernel_rfl) ⟨_, [.one _], 0, _, rfl, rfl, rfl, rfl, rfl⟩ ?_; clear H; intro b7 w H _; refine Vp E fun a E => ?_; refine Ve E ?_; refine Vc E ?_
 have HB := H.lend 0 rfl
 have hli := zes (T := zav) (its := [((sec, (SA, sc)): List Nat × zav.μ)]) (c := 1) (xs := [sec]) (HB.fact 0 rfl) rfl (zaX (its := []) (q := ((sec, (SA, sc)): List Nat × zav.μ)) zb3 (HB.fact 2 rfl)) rfl (by show 1 ≤ 1; decide) (by show 1 ≤ _; decide)
 have H2 := HB.refacts (R' := [_, _, _]) (jJ.2 ⟨HB.fact 1 rfl, jJ.2 ⟨hli, jJ.2 ⟨HB.fact 3 rfl, jK _⟩⟩⟩)
 clear HB hli; refine (zop (key := salt) (ps := [sec]) h64 (fun p hp => by rw [List.mem_singleton.1 hp]; exact hsl) (by show 1 ≤ 900000; decide) H2.xk (H2.fact 0 rfl) (H2.fact 1 rfl) (H2.fact 2 rfl)).mono ?_; rintro e w ⟨rfl, H1⟩
 have F := H1.frm
 replace H := H.grow F
 refine Vp E fun a E => ?_; clear F; clear H1 H2; refine Ws 1 E H fun w H => ?_; replace H : Sep _ _ _ _ [_, _] _ := H; refine Vn ?_; refine wp_ret ?_
 repeat (first | refine zat ?_ | refine zap ?_)
 refine zf8 rfl E (by exact zhT (n := 32) H 1 rfl rfl rfl (by kernel_rfl)) ?_
 exact ⟨rfl, (H.refacts (R' := []) (jK _)).popL.popL⟩
end
section
open Go.RowKit
theorem zwk (n : Nat) (hn : n ≤ 1000000000000) (w : World) :
  Calls Tryz.prog 36 #[.slice none 0 0, .int .i64 (n : Int)] w fun e w' => ∃ v, e = .returned v ∧ Own w' w.heap.size 5 v [] ∧ Below w.heap.size w w' := by
 by_cases h0 : n = 0
 ·subst h0
  go_enter Tryz.func36, Tryz.ntmps36
  go_wp2
  go_ret
  exact ⟨_, rfl, Own.nil_, Below.refl _ _⟩
 ·have hinfo := BT.info
  cases hi : (Tryz.prog).info? 5 with
  | none => rw [hi] at hinfo; cases hinfo
  | some i =>
   rw [hi] at hinfo
   simp only [Option.map_some, Option.some.injEq, Prod.mk.injEq] at hinfo
   obtain ⟨h1, h2, h3⟩ := hinfo
   have hrz := fun ty => Lib.run_append_nil_zeros (P := Tryz.prog) w 24 3 ty 5 i (.int .u8 0) .i64 .i64 Tryz.underlying24 Tryz.underlying3 hi h1 n (by omega) (by rw [h2]; decide) (by omega) (by rw [h3]; omega)
   obtain ⟨G, hG⟩ : ∃ G, grownCap w n 0 5 = G := ⟨_, rfl⟩
   have hGn : n ≤ G := by rw [← hG]; exact grownCap_ge w n 0 5
   have hGm : G ≤ maxLen := by rw [← hG]; exact grownCap_le_maxLen w n 0 5 (by unfold maxLen; omega)
   rw [hG] at hrz
   obtain ⟨C, hC⟩ : ∃ C, Builtin.zeroCells (Value.int .u8 0).cells n ++ Builtin.zeroCells (Value.int .u8 0).cells (G - n) = C := ⟨_, rfl⟩
   have hCs : C.size = G := by
    rw [← hC, Array.size_append, size_zeroCells, size_zeroCells]
    show n * 1 + (G - n) * 1 = G
    omega
   rw [hC] at hrz
   clear hC hG h1 h2 h3 hi
   have e1 : wrap64 ((n : Int) - 0) = (n : Int) := by unfold wrap64; omega
   have hG63 : G ≤ 9223372036854775807 := by unfold maxLen at hGm; omega
   go_enter Tryz.func36, Tryz.ntmps36
   go_wp2_with (at_builtin; refine Lib.wpList_append_run _ rfl _ _ _ _ rfl _ _ rfl rfl _ _ (hrz _) ?_)
   go_wp2
   go_ret
   refine ⟨_, rfl, ⟨rfl, .inr ⟨w.heap.size, G, C, rfl, jV _, ?_, Nat.zero_le _, hGm, by omega, by simp⟩⟩, ((Below.refl _ _).drew).alloc (jV _) _⟩
   exact heap_alloc_new w.drew _
theorem zf5 {ps : List (List Nat)} {i : Nat} {p : List Nat} (h : ps[i]? = some p) : (ps.take (i + 1)).flatten = (ps.take i).flatten ++ p := by
 rw [List.take_add_one, h, List.flatten_append]
 simp
theorem zuq (ps : List (List Nat)) (i : Nat) : (ps.take i).flatten.length ≤ ps.flatten.length := by
 have h := congrArg (fun l => l.flatten.length) (List.take_append_drop i ps)
 simp only [List.flatten_append, jQ] at h
 omega
theorem zwm {n : Nat} (hn : n ≤ 1000000000000) {X : List Nat} {w0 : World} (hX : ∀ k ∈ X, k < w0.heap.size) :
  Calls Tryz.prog 36 #[.slice none 0 0, .int .i64 (n : Int)] w0 fun e w' => ∃ A' c', e = .returned (.slice A' 0 c') ∧ Sep X [] w0 w' [.row (.slice A' 0 c') 5 1 0 (([] : List Nat).map bv)] [] := by
 refine (zwk n hn w0).mono ?_
 rintro e w' ⟨v, rfl, ho, hb⟩
 obtain ⟨A', c', rfl, h1⟩ := zfg hX ho hb
 exact ⟨A', c', rfl, h1⟩
theorem zry {PA : Option Addr} {pc : Nat} {ps : List (List Nat)} {pm : Nat → zav.μ} (hfl : ps.flatten.length ≤ 100000000000) {X : List Nat} {w0 : World} (hX : ∀ k ∈ X, k < w0.heap.size) (hL : St (LiF zav PA pc ps pm) w0 X) :
  Calls Tryz.prog 21 #[.slice PA ps.length pc] w0 fun e w' => ∃ A' c', e = .returned (.slice A' ps.flatten.length c') ∧ Sep X [] w0 w' [] [TxF A' c' ps.flatten] := by
 have hpsl := hL.now.big
 refine zaz Tryz.ntmps21 Tryz.func21 rfl rfl fun a E => ?_; replace E : Env a _ [(0, _)] := E
 have H : Sep X [] w0 w0 [] [(LiF zav PA pc ps pm)] := Sep.start hX (jJ.2 ⟨hL, fun _ h => by cases h⟩)
 refine Vr ?_; refine Vv E pka fun a E => ?_; refine Vn ?_; refine Vr ?_; refine Vv E pka fun a E => ?_; refine Vn ?_; refine wp_seq_k fun K2 hK2 => ?_; refine Vr ?_; refine Vv E pkm fun a E => ?_; refine Vv E pkn fun a E => ?_; refine Vv E pkm fun a E => ?_; refine Vn ?_; refine wp_block ?_
 refine zoj (γ := Nat) [0, 9, 10] (fun k => [(3, .int .i64 (((ps.take k).flatten.length : Nat) : Int)), (11, .int .i64 (k : Int))]) (fun k => k ≤ ps.length) (fun k => ps.length - k) (0) E H (by repeat (first | exact trivial | refine ⟨rfl, ?_⟩)) (Nat.zero_le _) ?_; clear E H; intro k a w E H hφ; replace E : Env a _ [(3, _), (11, _), (0, _), (9, _), (10, _)] := E; replace H : Sep _ _ _ _ [] [_] := H; refine Vr ?_; refine Vv E pki fun a E => ?_; refine Vn ?_; refine wp_seq_k fun K5 hK5 => ?_; refine zau (d := 12) E rfl ?_ ?_
 ·skip
  clear E; intro c12 E
  have hik : k < ps.length := by have := c12; simp only [jS] at this; omega
  have hx0 : ps[k]? = some ps[k] := jP hik
  have hle := zuq ps (k + 1)
  rw [zf5 hx0, jQ] at hle
  refine za7 E rfl ?_; refine wp_skip ?_; refine hK5 _ _ ?_; refine wp_seq_k fun K6 hK6 => ?_; refine wp_block ?_; refine Vr ?_
  obtain ⟨ad13, hA13, hc13, hn13⟩ := LiF.get (A := PA) (T := zav) (i := k) (x := ps[k]) (by exact H.fact 0 rfl) hx0
  refine Vv E (zb7 (sz := 1) hA13 rfl (by kernel_rfl) rfl rfl rfl (by omega)) fun a E => ?_
  replace H := (H.know hn13).know hc13
  clear hn13 hc13; replace H : Sep _ _ _ _ _ [_, _, _] := H; refine Vv E (zcB (H.fact 0 rfl) (fun _ _ _ => trivial) rfl rfl rfl (by kernel_rfl)) fun a E => ?_; refine Vv E pka fun a E => ?_; refine Vn ?_; refine Vr ?_; refine Vv E pkm fun a E => ?_; refine Vv E pkm fun a E => ?_; refine Vv E pkn fun a E => ?_; refine Vv E (zaK rfl rfl rfl rfl (zdf (by omega) (by omega))) fun a E => ?_
  rw [show (((ps.take k).flatten.length : Nat) : Int) + ((ps[k].length : Nat) : Int) = (((ps.take (k + 1)).flatten.length : Nat) : Int) from by rw [zf5 hx0, jQ]; omega] at E
  refine Vv E pka fun a E => ?_; refine Vn ?_; refine Vr ?_; refine Vv E pkm fun a E => ?_; refine Vv E (zbD (v := .bool false) rfl rfl rfl (congrArg (fun b => some (Value.bool b)) (decide_eq_false (by omega)))) fun a E => ?_; refine Vn ?_; refine zaN E rfl ?_; refine wp_skip ?_; refine hK6 _ _ ?_; refine zaB ?_; refine Vv E (zaK rfl rfl rfl rfl (zdf (by omega) (by omega))) fun a E => ?_; refine Vv E pkm fun a E => ?_; refine za9 ?_
  exact ⟨k + 1, ⟨E.to (by repeat (first | exact trivial | refine ⟨rfl, ?_⟩)), H.pop.pop, by omega⟩, by omega⟩
 ·skip
  clear E; intro c12 E
  obtain rfl : k = ps.length := by have := c12; simp only [decide_eq_false_iff_not] at this; omega
  rw [List.take_length] at E
  refine zaN E rfl ?_; refine wp_exit ?_
  repeat (first | refine za4 ?_ | refine za5 ?_ | refine zaW (by decide) ?_)
  refine hK2 _ _ ?_; refine Vr ?_; refine Vv E pkm fun a E => ?_; refine Ve E ?_; refine Vc E ?_; refine (zwm (n := ps.flatten.length) (by omega) H.xk).mono ?_; rintro e w ⟨A24, c24, rfl, H1⟩
  replace H := H.call H1
  clear H1; replace H : Sep _ _ _ _ [_] [_] := H; refine Vp E fun a E => ?_; refine Vv E pka fun a E => ?_; refine Vn ?_; refine wp_seq_k fun K11 hK11 => ?_; refine Vr ?_; refine Vv E pkm fun a E => ?_; refine Vv E pkn fun a E => ?_; refine Vv E pkm fun a E => ?_; refine Vn ?_; refine wp_block ?_
  refine zbC (γ := Nat × Option Addr × Nat) [25, 26] (fun g => [(6, .slice g.2.1 (ps.take g.1).flatten.length g.2.2), (27, .int .i64 (g.1 : Int))]) (fun g => [.row (.slice g.2.1 (ps.take g.1).flatten.length g.2.2) 5 1 (ps.take g.1).flatten.length ((ps.take g.1).flatten.map bv)]) (fun g => [LiF zav PA pc ps pm]) (fun g => g.1 ≤ ps.length ∧ ∀ x ∈ (ps.take g.1).flatten, x < 256) (fun g => ps.length - g.1) ((0, A24, c24)) E H (by repeat (first | exact trivial | refine ⟨rfl, ?_⟩)) (⟨Nat.zero_le _, fun x hx => by cases hx⟩) ?_; clear E H; intro g a w E H hφ; replace E : Env a _ [(6, _), (27, _), (25, _), (26, _)] := E; replace H : Sep _ _ _ _ [_] [_] := H
  obtain ⟨i, Ag, cg⟩ := g
  simp only at E H hφ ⊢
  obtain ⟨hi, hib⟩ := hφ
  refine Vr ?_; refine Vv E pki fun a E => ?_; refine Vn ?_; refine wp_seq_k fun K14 hK14 => ?_; refine zau (d := 28) E rfl ?_ ?_
  ·skip
   clear E; intro c28 E
   have hik : i < ps.length := by have := c28; simp only [jS] at this; omega
   have hx0 : ps[i]? = some ps[i] := jP hik
   have hle := zuq ps (i + 1)
   rw [zf5 hx0, jQ] at hle
   refine za7 E rfl ?_; refine wp_skip ?_; refine hK14 _ _ ?_; refine wp_seq_k fun K15 hK15 => ?_; refine wp_block ?_; refine Vr ?_
   obtain ⟨ad29, hA29, hc29, hn29⟩ := LiF.get (A := PA) (T := zav) (i := i) (x := ps[i]) (by exact H.fact 0 rfl) hx0
   refine Vv E (zb7 (sz := 1) hA29 rfl (by kernel_rfl) rfl rfl rfl (by omega)) fun a E => ?_
   replace H := (H.know hn29).know hc29
   clear hn29 hc29; replace H : Sep _ _ _ _ _ [_, _, _] := H; refine Vv E (zcB (H.fact 0 rfl) (fun _ _ _ => trivial) rfl rfl rfl (by kernel_rfl)) fun a E => ?_; refine Vv E pka fun a E => ?_; refine Vn ?_; refine zaB ?_; refine Vv E pkm fun a E => ?_; refine Vv E pkm fun a E => ?_; refine Ve E ?_; refine zdO (k := (ps.take i).flatten) (m := ps[i]) 0 E H (H.fact 1 rfl) rfl rfl rfl rfl ⟨Tryz.underlying24, by kernel_rfl⟩ (by omega) ?_; clear H; intro A33 c33 w H F; replace H : Sep _ _ _ _ [_] _ := H; refine Vp E fun a E => ?_; clear F; refine Vv E pka fun a E => ?_; refine hK15 _ _ ?_
   refine zaB ?_; refine Vv E (zaK rfl rfl rfl rfl (zdf (by omega) (by omega))) fun a E => ?_; refine Vv E pkm fun a E => ?_
   have hpb : ∀ x ∈ ps[i], x < 256 := (St.now (H.fact 1 rfl : St (TxF (pm i).1 (pm i).2 ps[i]) w _)).byt
   rw [← zf5 hx0] at E H
   refine za9 ?_
   exact ⟨(i + 1, A33, c33), ⟨E.to (by repeat (first | exact trivial | refine ⟨rfl, ?_⟩)), H.pop.pop, ⟨by show i + 1 ≤ ps.length; omega, fun x hx => by rw [zf5 hx0] at hx; rcases List.mem_append.1 hx with h1 | h1; exact hib x h1; exact hpb x h1⟩⟩, by show ps.length - (i + 1) < ps.length - i; omega⟩
  ·skip
   clear E; intro c28 E
   obtain rfl : i = ps.length := by have := c28; simp only [decide_eq_false_iff_not] at this; omega
   rw [List.take_length] at E H hib
   refine zaN E rfl ?_; refine wp_exit ?_
   repeat (first | refine za4 ?_ | refine za5 ?_ | refine zaW (by decide) ?_)
   refine hK11 _ _ ?_; refine Vr ?_; refine Vv E pkm fun a E => ?_; refine Vv E pka fun a E => ?_; refine Vn ?_; refine wp_ret ?_
   repeat (first | refine zat ?_ | refine zap ?_)
   refine zf8 rfl E (zbT rfl) ?_
   have hT := H.rowTx (Sep.new_x H) (by omega) hib
   exact ⟨Ag, cg, rfl, hT.refacts (jJ.2 ⟨hT.fact 0 rfl, jK _⟩)⟩
end
section
open Go.RowKit
def zc3 (gt : Nat → Nat) (k plain : List Nat) (ts : List (List Nat)) : List Nat × Int :=
 if okT ts then (zeS (zdh gt k) plain ++ zgs gt (zem gt k) (zeS (zdh gt k) plain) ts, 0) else ([], 4)
def zcN (gt : Nat → Nat) (k bs : List Nat) (ts : List (List Nat)) : List Nat × Int :=
 if bs.length < 16 then ([], 2) else if 1048592 < bs.length then ([], 4) else if ¬ okT ts then ([], 4) else
 if zgs gt (zem gt k) (bs.take (bs.length - 16)) ts = bs.drop (bs.length - 16) then (zeS (zdh gt k) (bs.take (bs.length - 16)), 0) else ([], 5)
theorem zrz (gt : Nat → Nat) (k plain : List Nat) (ts : List (List Nat)) : ∀ x ∈ (zc3 gt k plain ts).1, x < 256 := by
 unfold zc3
 split
 ·intro x hx
  rcases List.mem_append.1 hx with h | h
  ·exact zhn _ _ x h
  ·exact zui _ _ _ _ x h
 ·intro x hx; cases hx
theorem zur (gt : Nat → Nat) (k plain : List Nat) (ts : List (List Nat)) : (zc3 gt k plain ts).1.length ≤ plain.length + 16 := by
 unfold zc3
 split
 ·rw [jQ, zfx, zhm]; omega
 ·exact Nat.zero_le _
attribute [local irreducible] zer zie zeS zgs
theorem zwn {PA TA : Option Addr} {pc tc : Nat} {k plain : List Nat} {ts : List (List Nat)} {tm : Nat → zav.μ} {gt : Nat → Nat} (hk32 : k.length = 32) (hkb : ∀ x ∈ k, x < 256) (hpl : plain.length ≤ 1048576) (hts : ts.length ≤ 1000) {X : List Nat} {w0 : World} (hX : ∀ k ∈ X, k < w0.heap.size) (hP : St (TxF PA pc plain) w0 X) (hL : St (LiF zav TA tc ts tm) w0 X) (hG : St (AtC ⟨2, 0, none⟩ [.row 64 fun i => u32 (gt i)]) w0 X) :
  Calls Tryz.prog 20 #[.agg (ca [.key k]), .slice PA plain.length pc, .slice TA ts.length tc] w0 fun e w' => ∃ A' c', e = .returned (.tuple #[.slice A' (zc3 gt k plain ts).1.length c', .int .i64 (zc3 gt k plain ts).2]) ∧ Sep X [] w0 w' [.row (.slice A' (zc3 gt k plain ts).1.length c') 5 1 (zc3 gt k plain ts).1.length ((zc3 gt k plain ts).1.map bv)] [] := by
 have hlM : (zem gt k).length = 32 := zeG _ _ _ _
 have hSb : ∀ z ∈ zdh gt k, z < 256 := zg3 _ _ _ _
 refine zaz Tryz.ntmps20 Tryz.func20 rfl rfl fun a E => ?_; replace E : Env a _ [(0, _), (1, _), (2, _)] := E
 have H : Sep X [] w0 w0 [] [(TxF PA pc plain), (LiF zav TA tc ts tm), (AtC ⟨2, 0, none⟩ [.row 64 fun i => u32 (gt i)])] := Sep.start hX (jJ.2 ⟨hP, jJ.2 ⟨hL, jJ.2 ⟨hG, fun _ h => by cases h⟩⟩⟩)
 refine Vr ?_; refine Wb E H fun b3 w a H E => ?_; refine Vv E pka fun a E => ?_; refine Vv E pka fun a E => ?_; refine Vn ?_; refine Vr ?_; refine Vv E (pkl 32 H 0) fun a E => ?_; refine Ve E ?_; refine Vc E ?_; refine (zkF (k := k) hk32 hkb H.xk (H.fact 2 rfl)).mono ?_; rintro e w ⟨A14, c14, rfl, H1⟩
 replace H := H.call H1
 clear H1; replace H : Sep _ _ _ _ [_] [_, _, _, _] := H; refine Vp E fun a E => ?_; refine Vv E pkm fun a E => ?_; refine Vv E pkx fun a E => ?_; refine Vv E pkx fun a E => ?_; refine Wa (z := [.row 16 fun _ => .int .u8 0, .row 12 fun _ => .int .u8 0, .one (.slice none 0 0)]) E H fun b8 w a H E => ?_; refine Ws 0 E H fun w H => ?_; replace H : Sep _ _ _ _ [_, _] _ := H; refine Vv E pka fun a E => ?_; refine Vn ?_; refine wp_seq_k fun K2 hK2 => ?_; refine Vr ?_; refine Vv E pkm fun a E => ?_; refine Vv E (zbD (v := .bool false) rfl rfl rfl (congrArg (fun b => some (Value.bool b)) (rfl))) fun a E => ?_; refine Vn ?_; refine zaN E rfl ?_; refine wp_skip ?_; refine hK2 _ _ ?_; refine Vr ?_; refine Vv E (zaM (off := 0) rfl rfl (by kernel_rfl)) fun a E => ?_; refine Vv E (pkl 16 H 0) fun a E => ?_; refine Vv E (zaM (off := 16) rfl rfl (by kernel_rfl)) fun a E => ?_; refine Vv E (pkl 12 H 0) fun a E => ?_; refine Vv E pkm fun a E => ?_; refine Ve E ?_; refine Vc E ?_; refine (zuj (k := plain) (x := zdh gt k) H.xk (H.fact 1 rfl) hpl hSb).mono ?_; rintro e w ⟨A26, c26, rfl, H1⟩
 replace H := H.call H1
 clear H1; replace H : Sep _ _ _ _ [_, _, _] [_, _, _, _] := H; refine Vp E fun a E => ?_; refine Vv E pkm fun a E => ?_; refine Vv E pkx fun a E => ?_; refine Vv E pkx fun a E => ?_; refine Vv E pka fun a E => ?_; refine Vv E pka fun a E => ?_; refine Vn ?_; refine wp_seq_k fun K5 hK5 => ?_; refine Vr ?_; refine Vv E pkm fun a E => ?_; refine Vv E (zbD (v := .bool false) rfl rfl rfl (congrArg (fun b => some (Value.bool b)) (rfl))) fun a E => ?_; refine Vn ?_; refine zaN E rfl ?_; refine wp_skip ?_
 refine hK5 _ _ ?_; refine Vr ?_; refine Vv E (pkl 29 H 1) fun a E => ?_; refine Vv E pkm fun a E => ?_; refine Vv E pkm fun a E => ?_; refine Ve E ?_; refine Vc E ?_
 have HR := H.rowTx (Sep.new_x H) (by rw [zfx]; omega) (zhn _ _)
 refine (zuk (sum := zem gt k) (hid := (zeS (zdh gt k) plain)) (ts := ts) hlM (by rw [zfx]; omega) hts HR.xk (HR.fact 1 rfl) (HR.fact 0 rfl) (HR.fact 3 rfl) (HR.fact 4 rfl)).mono ?_; rintro e w ⟨A36, c36, rfl, H1⟩
 have F := H1.frm
 replace H := H.grow F
 refine Vp E fun a E => ?_; clear F
 have hT36 := H1.fact 0 rfl
 clear H1 HR; refine Vv E pkm fun a E => ?_; refine Vv E pkx fun a E => ?_; refine Vv E pkx fun a E => ?_; refine Vv E pka fun a E => ?_; refine Vv E pka fun a E => ?_; refine Vn ?_; refine wp_seq_k fun K8 hK8 => ?_; refine Vr ?_; refine Vv E pkm fun a E => ?_; refine Vv E pki fun a E => ?_; refine Vn ?_; refine zau (d := 40) E rfl ?_ ?_
 ·skip
  clear E; intro c40 E
  have hok : ¬ okT ts := fun h => by
   rw [show zgL gt (zem gt k) (zeS (zdh gt k) plain) ts = (zgs gt (zem gt k) (zeS (zdh gt k) plain) ts, 0) from by unfold zgL; rw [if_pos h]] at c40
   cases c40
  have htr : zgL gt (zem gt k) (zeS (zdh gt k) plain) ts = ([], 4) := by unfold zgL; rw [if_neg hok]
  have hsr : zc3 gt k plain ts = ([], 4) := by unfold zc3; rw [if_neg hok]
  refine za7 E rfl ?_; refine Vr ?_; refine Vv E pkm fun a E => ?_; refine Vv E pka fun a E => ?_; refine Vv E pka fun a E => ?_; refine Vn ?_; refine wp_ret ?_
  repeat (first | refine zat ?_ | refine zap ?_)
  refine zeO rfl E (zbT rfl) (zbT rfl) ?_
  rw [hsr]
  exact ⟨none, 0, by rw [htr]; rfl, (((H.refacts (R' := []) (jK _)).popL.popL.popL).rownil _ _)⟩
 ·skip
  clear E; intro c40 E
  have hok : okT ts := by
   refine Classical.byContradiction fun h => ?_
   rw [show zgL gt (zem gt k) (zeS (zdh gt k) plain) ts = ([], 4) from by unfold zgL; rw [if_neg h]] at c40
   cases c40
  have htr : zgL gt (zem gt k) (zeS (zdh gt k) plain) ts = (zgs gt (zem gt k) (zeS (zdh gt k) plain) ts, 0) := by unfold zgL; rw [if_pos hok]
  have hsr : zc3 gt k plain ts = ((zeS (zdh gt k) plain) ++ zgs gt (zem gt k) (zeS (zdh gt k) plain) ts, 0) := by unfold zc3; rw [if_pos hok]
  rw [htr] at E hT36
  simp only at E hT36
  refine zaN E rfl ?_; refine wp_skip ?_; refine hK8 _ _ ?_; refine Vr ?_; refine Vv E pkm fun a E => ?_; refine Vv E pkm fun a E => ?_; refine Ve E ?_; refine zdO (k := (zeS (zdh gt k) plain)) (m := zgs gt (zem gt k) (zeS (zdh gt k) plain) ts) 0 E H hT36 rfl rfl rfl rfl ⟨Tryz.underlying24, by kernel_rfl⟩ (by rw [zfx, zhm]; omega) ?_; clear H; intro A44 c44 w H F; replace H : Sep _ _ _ _ [_, _, _] _ := H; refine Vp E fun a E => ?_; clear F; refine Vv E pka fun a E => ?_; refine Vv E pka fun a E => ?_; refine Vn ?_; refine wp_ret ?_
  repeat (first | refine zat ?_ | refine zap ?_)
  refine zeO rfl E (zbT rfl) (zbT rfl) ?_
  rw [hsr]
  exact ⟨A44, c44, rfl, ((((H.refacts (R' := []) (jK _)).perm (L' := [_, _, _]) ((List.Perm.swap _ _ _).trans (List.Perm.cons _ (List.Perm.swap _ _ _)))).popL).popL)⟩
theorem zwo {BA TA : Option Addr} {bc tc : Nat} {k bs : List Nat} {ts : List (List Nat)} {tm : Nat → zav.μ} {gt : Nat → Nat} (hk32 : k.length = 32) (hkb : ∀ x ∈ k, x < 256) (hts : ts.length ≤ 1000) {X : List Nat} {w0 : World} (hX : ∀ k ∈ X, k < w0.heap.size) (hB : St (TxF BA bc bs) w0 X) (hL : St (LiF zav TA tc ts tm) w0 X) (hG : St (AtC ⟨2, 0, none⟩ [.row 64 fun i => u32 (gt i)]) w0 X) :
  Calls Tryz.prog 23 #[.agg (ca [.key k]), .slice BA bs.length bc, .slice TA ts.length tc] w0 fun e w' => ∃ A' c', e = .returned (.tuple #[.slice A' (zcN gt k bs ts).1.length c', .int .i64 (zcN gt k bs ts).2]) ∧ Sep X [] w0 w' [] [TxF A' c' (zcN gt k bs ts).1] := by
 have hlM : (zem gt k).length = 32 := zeG _ _ _ _
 have hSb : ∀ z ∈ zdh gt k, z < 256 := zg3 _ _ _ _
 have hbl := hB.now.len
 have hbc := hB.now.cap
 refine zaz Tryz.ntmps23 Tryz.func23 rfl rfl fun a E => ?_; replace E : Env a _ [(0, _), (1, _), (2, _)] := E
 have H : Sep X [] w0 w0 [] [(TxF BA bc bs), (LiF zav TA tc ts tm), (AtC ⟨2, 0, none⟩ [.row 64 fun i => u32 (gt i)])] := Sep.start hX (jJ.2 ⟨hB, jJ.2 ⟨hL, jJ.2 ⟨hG, fun _ h => by cases h⟩⟩⟩)
 refine Vr ?_; refine Wb E H fun b3 w a H E => ?_; refine Vv E pka fun a E => ?_; refine Vv E pka fun a E => ?_; refine Vn ?_; refine Vr ?_; refine Vv E pkm fun a E => ?_; refine Vv E pkn fun a E => ?_; refine Vv E (zaK rfl rfl rfl rfl (zdf (by omega) (by omega))) fun a E => ?_; refine Vv E pka fun a E => ?_; refine Vn ?_; refine wp_seq_k fun K2 hK2 => ?_; refine wp_block ?_; refine Vr ?_; refine Vv E pkm fun a E => ?_; refine Vv E pki fun a E => ?_; refine Vv E pka fun a E => ?_; refine Vn ?_; refine zau (d := 15) E rfl ?_ ?_
 ·skip
  clear E; intro c15 E
  have hlt : bs.length < 16 := by have := c15; simp only [jS] at this; omega
  have hor : zcN gt k bs ts = ([], 2) := by unfold zcN; rw [if_pos hlt]
  refine za7 E rfl ?_; refine Vr ?_; refine Vv E pka fun a E => ?_; refine Vv E pka fun a E => ?_; refine Vn ?_; refine wp_ret ?_
  repeat (first | refine zat ?_ | refine zap ?_)
  refine zeO rfl E (zbT rfl) (zbT rfl) ?_
  rw [hor]
  exact ⟨none, 0, rfl, ((H.refacts (R' := [_]) (jJ.2 ⟨zbw, jK _⟩))).popL⟩
 ·skip
  clear E; intro c15 E
  have hlt : ¬ bs.length < 16 := by have := c15; simp only [decide_eq_false_iff_not] at this; omega
  refine zaN E rfl ?_; refine Vr ?_; refine Vv E pkm fun a E => ?_; refine Vv E pki fun a E => ?_; refine Vv E pka fun a E => ?_; refine Vn ?_; refine zau (d := 18) E rfl ?_ ?_
  ·skip
   clear E; intro c18 E
   have hgt : 1048592 < bs.length := by have := c18; simp only [jS] at this; omega
   have hor : zcN gt k bs ts = ([], 4) := by unfold zcN; rw [if_neg hlt, if_pos hgt]
   refine za7 E rfl ?_; refine Vr ?_; refine Vv E pka fun a E => ?_; refine Vv E pka fun a E => ?_; refine Vn ?_; refine wp_ret ?_
   repeat (first | refine zat ?_ | refine zap ?_)
   refine zeO rfl E (zbT rfl) (zbT rfl) ?_
   rw [hor]
   exact ⟨none, 0, rfl, ((H.refacts (R' := [_]) (jJ.2 ⟨zbw, jK _⟩))).popL⟩
  ·skip
   clear E; intro c18 E
   have hgt : ¬ 1048592 < bs.length := by have := c18; simp only [decide_eq_false_iff_not] at this; omega
   obtain ⟨n, hn⟩ : ∃ n, bs.length = n + 16 := ⟨bs.length - 16, by omega⟩
   rw [show ((bs.length : Nat) : Int) - 16 = ((n : Nat) : Int) from by omega] at E
   have hbt : (bs.take n).length = n := by rw [List.length_take]; omega
   have hn16 : bs.length - 16 = n := by omega
   refine zaN E rfl ?_; refine wp_skip ?_; refine hK2 _ _ ?_; refine Vr ?_; refine Vv E (pkl 32 H 0) fun a E => ?_; refine Ve E ?_; refine Vc E ?_; refine (zkF (k := k) hk32 hkb H.xk (H.fact 2 rfl)).mono ?_; rintro e w ⟨A23, c23, rfl, H1⟩
   replace H := H.call H1
   clear H1; replace H : Sep _ _ _ _ [_] [_, _, _, _] := H; refine Vp E fun a E => ?_; refine Vv E pkm fun a E => ?_; refine Vv E pkx fun a E => ?_; refine Vv E pkx fun a E => ?_; refine Wa (z := [.row 16 fun _ => .int .u8 0, .row 12 fun _ => .int .u8 0, .one (.slice none 0 0)]) E H fun b9 w a H E => ?_; refine Ws 0 E H fun w H => ?_; replace H : Sep _ _ _ _ [_, _] _ := H; refine Vv E pka fun a E => ?_; refine Vn ?_; refine wp_seq_k fun K8 hK8 => ?_; refine Vr ?_; refine Vv E pkm fun a E => ?_; refine Vv E (zbD (v := .bool false) rfl rfl rfl (congrArg (fun b => some (Value.bool b)) (rfl))) fun a E => ?_; refine Vn ?_; refine zaN E rfl ?_; refine wp_skip ?_; refine hK8 _ _ ?_; refine wp_seq_k fun K10 hK10 => ?_
   replace H := H.know (zdN (hi := n) (H.fact 1 rfl) (by omega))
   replace H : Sep _ _ _ _ [_, _] [_, _, _, _, _] := H; refine zbr E H [] 10 [(0, false), (1, false), (2, false), (3, false), (4, false), (5, true), (6, false), (7, false), (8, false), (9, false)] (by kernel_rfl) (by kernel_rfl) (fun w HS => ?_)
   (simp only [canOps, jD, jE, jF, jG])
   clear H
   have H := HS
   have hsz : w.heap.size ≤ w.heap.size := jV _
   have HK : CanB.Keep (fun k => k < w.heap.size ∧ k ∉ []) w w := CanB.Keep.refl _ _
   refine Cw E HK (zcr (n := 29) HS 0 rfl rfl rfl (HS.inS 0 rfl (by simp)) rfl (by kernel_rfl)) fun a E => ?_; refine Cw E HK pkm fun a E => ?_; refine Cw E HK pkm fun a E => ?_; refine Cw E HK (zeq (sz := 1) (hi := n) rfl (by kernel_rfl) rfl rfl rfl (by omega)) fun a E => ?_
   rw [sub_zero, show Value.slice BA n bc = .slice BA (bs.take n).length bc from by rw [hbt]] at E
   refine Cw E HK pkm fun a E => ?_; refine zfC E rfl (fun K hK => ?_); refine Vc E ?_; refine (zuk (sum := zem gt k) (hid := (bs.take n)) (ts := ts) hlM (by rw [hbt]; omega) hts H.xk (H.fact 1 rfl) (H.fact 0 rfl) (H.fact 3 rfl) (H.fact 4 rfl)).mono ?_; rintro e w ⟨A35, c35, rfl, H1⟩
   have F := H1.frm
   replace H := H.call H1
   clear H1; replace H : Sep _ _ _ _ [_, _] [_, _, _, _, _, _] := H
   have hk := zaI (D := []) F hsz (by simp)
   refine hK _ _ hk ?_; clear hK K
   replace HK := HK.trans hk
   replace hsz := jU hsz (F).size
   clear hk; refine zfD E rfl rfl ?_; clear E a; intro a E; clear F; refine Cw E HK pkm fun a E => ?_; refine Cw E HK (zaV rfl rfl rfl) fun a E => ?_; refine Cw E HK (zaV rfl rfl rfl) fun a E => ?_; refine Cw E HK (zcA rfl rfl) fun a E => ?_; refine CanB.wpCan_nil ?_
   try (simp only [jH, jI, jF, jG])
   clear HS HK hsz; refine Vv E pka fun a E => ?_; refine hK10 _ _ ?_; refine wp_seq_k fun K11 hK11 => ?_; refine wp_block ?_; refine Vr ?_; refine Vv E pkm fun a E => ?_; refine Vv E pki fun a E => ?_; refine Vv E pka fun a E => ?_; refine Vn ?_; refine zau (d := 38) E rfl ?_ ?_
   ·skip
    clear E; intro c38 E
    have hok : ¬ okT ts := fun h => by
     rw [show zgL gt (zem gt k) (bs.take n) ts = (zgs gt (zem gt k) (bs.take n) ts, 0) from by unfold zgL; rw [if_pos h]] at c38
     cases c38
    have htr : zgL gt (zem gt k) (bs.take n) ts = ([], 4) := by unfold zgL; rw [if_neg hok]
    have hor : zcN gt k bs ts = ([], 4) := by unfold zcN; rw [if_neg hlt, if_neg hgt, if_pos hok]
    refine za7 E rfl ?_; refine Vr ?_; refine Vv E pkm fun a E => ?_; refine Vv E pka fun a E => ?_; refine Vv E pka fun a E => ?_; refine Vn ?_; refine wp_ret ?_
    repeat (first | refine zat ?_ | refine zap ?_)
    refine zeO rfl E (zbT rfl) (zbT rfl) ?_
    rw [hor]
    exact ⟨none, 0, by rw [htr]; rfl, ((H.refacts (R' := [_]) (jJ.2 ⟨zbw, jK _⟩))).popL.popL⟩
   ·skip
    clear E; intro c38 E
    have hok : okT ts := by
     refine Classical.byContradiction fun h => ?_
     rw [show zgL gt (zem gt k) (bs.take n) ts = ([], 4) from by unfold zgL; rw [if_neg h]] at c38
     cases c38
    have htr : zgL gt (zem gt k) (bs.take n) ts = (zgs gt (zem gt k) (bs.take n) ts, 0) := by unfold zgL; rw [if_pos hok]
    rw [htr] at E H
    simp only at E H
    refine zaN E rfl ?_; refine Vr ?_; refine Vv E pkm fun a E => ?_; refine Vv E pkm fun a E => ?_; refine Vv E pkm fun a E => ?_
    obtain ⟨A46, c46, h46, hT46⟩ := zeE (lo := n) (H.fact 3 rfl) (by omega)
    refine Vv E (zdS (sz := 1) (lo := n) rfl (by kernel_rfl) rfl rfl rfl (by omega)) fun a E => ?_
    rw [h46] at E
    replace H := H.know hT46
    clear h46 hT46; replace H : Sep _ _ _ _ _ [_, _, _, _, _, _, _] := H; refine Ve E ?_; refine Vc E ?_; refine (zsb (ka := zgs gt (zem gt k) (bs.take n) ts) (kb := (bs.drop n)) H.xk (H.fact 1 rfl) (H.fact 0 rfl)).mono ?_; rintro e w ⟨rfl, H1⟩
    replace H := H.call H1
    clear H1; replace H : Sep _ _ _ _ [_, _] [_, _, _, _, _, _, _] := H; refine Vp E fun a E => ?_; refine Vv E (zkf rfl rfl) fun a E => ?_; refine Vv E pka fun a E => ?_; refine Vn ?_; refine zau (d := 42) E rfl ?_ ?_
    ·skip
     clear E; intro c42 E
     have hne : ¬ zgs gt (zem gt k) (bs.take n) ts = (bs.drop n) := by have := c42; simpa using this
     have hor : zcN gt k bs ts = ([], 5) := by unfold zcN; rw [if_neg hlt, if_neg hgt, if_neg (fun h => h hok), hn16, if_neg hne]
     refine za7 E rfl ?_; refine Vr ?_; refine Vv E pka fun a E => ?_; refine Vv E pka fun a E => ?_; refine Vn ?_; refine wp_ret ?_
     repeat (first | refine zat ?_ | refine zap ?_)
     refine zeO rfl E (zbT rfl) (zbT rfl) ?_
     rw [hor]
     exact ⟨none, 0, rfl, ((H.refacts (R' := [_]) (jJ.2 ⟨zbw, jK _⟩))).popL.popL⟩
    ·skip
     clear E; intro c42 E
     have heq : zgs gt (zem gt k) (bs.take n) ts = (bs.drop n) := by have := c42; simpa using this
     have hor : zcN gt k bs ts = (zeS (zdh gt k) (bs.take n), 0) := by unfold zcN; rw [if_neg hlt, if_neg hgt, if_neg (fun h => h hok), hn16, if_pos heq]
     refine zaN E rfl ?_; refine wp_skip ?_; refine hK11 _ _ ?_; refine wp_seq_k fun K16 hK16 => ?_; refine zbr E H [] 10 [(0, false), (1, false), (2, false), (3, false), (4, false), (5, false), (6, false), (7, true), (8, false), (9, false)] (by kernel_rfl) (by kernel_rfl) (fun w HS => ?_)
     (simp only [canOps, jD, jE, jF, jG])
     clear H
     have H := HS
     have hsz : w.heap.size ≤ w.heap.size := jV _
     have HK : CanB.Keep (fun k => k < w.heap.size ∧ k ∉ []) w w := CanB.Keep.refl _ _
     refine Cw E HK (zaM (off := 0) rfl rfl (by kernel_rfl)) fun a E => ?_; refine Cw E HK (zcr (n := 16) HS 0 rfl rfl rfl (HS.inS 0 rfl (by simp)) rfl (by kernel_rfl)) fun a E => ?_; refine Cw E HK (zaM (off := 16) rfl rfl (by kernel_rfl)) fun a E => ?_; refine Cw E HK (zcr (n := 12) HS 0 rfl rfl rfl (HS.inS 0 rfl (by simp)) rfl (by kernel_rfl)) fun a E => ?_; refine Cw E HK pkm fun a E => ?_; refine Cw E HK pkm fun a E => ?_; refine Cw E HK (zeq (sz := 1) (hi := n) rfl (by kernel_rfl) rfl rfl rfl (by omega)) fun a E => ?_
     rw [sub_zero, show Value.slice BA n bc = .slice BA (bs.take n).length bc from by rw [hbt]] at E
     refine zfC E rfl (fun K hK => ?_); refine Vc E ?_; refine (zuj (k := (bs.take n)) (x := zdh gt k) H.xk (H.fact 2 rfl) (by rw [hbt]; omega) hSb).mono ?_; rintro e w ⟨A56, c56, rfl, H1⟩
     have F := H1.frm
     replace H := H.call H1
     clear H1; replace H : Sep _ _ _ _ [_, _, _] [_, _, _, _, _, _, _] := H
     have hk := zaI (D := []) F hsz (by simp)
     refine hK _ _ hk ?_; clear hK K
     replace HK := HK.trans hk
     replace hsz := jU hsz (F).size
     clear hk; refine zfD E rfl rfl ?_; clear E a; intro a E; clear F; refine Cw E HK (zaV rfl rfl rfl) fun a E => ?_; refine Cw E HK (zaV rfl rfl rfl) fun a E => ?_; refine CanB.wpCan_nil ?_
     try (simp only [jH, jI, jF, jG])
     clear HS HK hsz; refine Vv E pka fun a E => ?_; refine Vv E pka fun a E => ?_; refine hK16 _ _ ?_; refine wp_ret ?_
     repeat (first | refine zat ?_ | refine zap ?_)
     refine zeO rfl E (zbT rfl) (zbT rfl) ?_
     rw [hor]
     have hT := H.rowTx (Sep.new_x H) (by rw [zfx]; omega) (zhn _ _)
     exact ⟨A56, c56, rfl, ((hT.refacts (jJ.2 ⟨hT.fact 0 rfl, jK _⟩)).popL).popL⟩
end
section
open Go.RowKit
def zzF : List Nat := [112, 97, 105, 114]
def zBg : List Nat := [98, 111, 120]
def zus : List Nat := [107, 101, 121]
def zbu (k u : List Nat) : List Nat := (List.range 32).map fun i => zbj (zdA (fun i => k.getD i 0) (za2 fun i => u.getD i 0)) i
def zdk (k : List Nat) : List Nat := (List.range 32).map fun i => zbj (zdA (fun i => k.getD i 0) (za2 zj7)) i
theorem zn2 (k u : List Nat) : (zbu k u).length = 32 := by simp [zbu]
theorem zdW (k : List Nat) : (zdk k).length = 32 := by simp [zdk]
theorem zgj (k u : List Nat) : ∀ x ∈ zbu k u, x < 256 := fun x hx => by
 obtain ⟨i, _, rfl⟩ := List.mem_map.1 hx
 exact zix _ _
theorem zdi (k : List Nat) : ∀ x ∈ zdk k, x < 256 := fun x hx => by
 obtain ⟨i, _, rfl⟩ := List.mem_map.1 hx
 exact zix _ _
theorem zhp (f : Nat → Nat) : arr .u8 32 (fun i => ((f i : Nat) : Int)) = ca [.key ((List.range 32).map f)] := by
 rw [zjQ]
 simp only [ca]
 congr 1
theorem zmE {X : List Nat} {w0 w' : World} (hX : ∀ k ∈ X, k < w0.heap.size) (hb : Below w0.heap.size w0 w') : Sep X [] w0 w' [] [] :=
 ⟨Frm.of_below hb, hX, fun _ h => (by cases h), List.nodup_nil, fun _ h => (by cases h), fun _ h => by cases h⟩
section
variable {X : List Nat} {w0 : World} {k u : List Nat}
theorem zwp (hX : ∀ i ∈ X, i < w0.heap.size) (hk : ∀ x ∈ k, x < 256) (hu : ∀ x ∈ u, x < 256) :
  Calls Tryz.prog 26 #[.agg (ca [.key k]), .agg (ca [.key u])] w0 fun e w' => e = .returned (.agg (ca [.key (zbu k u)])) ∧ Sep X [] w0 w' [] [] := by
 rw [zcM, zcM]
 refine (zp6 (fun i => k.getD i 0) (fun i => u.getD i 0) (fun i _ => zc2 hk i) (fun i _ => zc2 hu i) w0).mono ?_
 rintro e w' ⟨rfl, hb⟩
 exact ⟨by rw [zhp]; rfl, zmE hX hb⟩
theorem zmF (hX : ∀ i ∈ X, i < w0.heap.size) (hk : ∀ x ∈ k, x < 256) :
  Calls Tryz.prog 17 #[.agg (ca [.key k])] w0 fun e w' => e = .returned (.agg (ca [.key (zdk k)])) ∧ Sep X [] w0 w' [] [] := by
 rw [zcM]
 refine (zvP (fun i => k.getD i 0) (fun i _ => zc2 hk i) w0).mono ?_
 rintro e w' ⟨rfl, hb⟩
 exact ⟨by rw [zhp]; rfl, zmE hX hb⟩
end
def zrA (gt : Nat → Nat) (seed : List Nat) : List Nat := zkG gt seed zzF []
def zn3 (gt : Nat → Nat) (seed : List Nat) : List Nat := zdk (zrA gt seed)
def zb5 (gt : Nat → Nat) (both mine theirs : List Nat) : List Nat := zkG gt (zer gt [] [both]) zus [mine, theirs]
def zdB (k : List Nat) : Prop := zmR k = zmR []
instance (k : List Nat) : Decidable (zdB k) := by unfold zdB; infer_instance
def zdy (gt : Nat → Nat) (sec oth mine theirs : List Nat) : List Nat × Int := if zdB (zbu sec oth) then ([], 1) else (zb5 gt (zbu sec oth) mine theirs, 0)
def zcw (gt : Nat → Nat) (seed : List Nat) : List Nat := zrA gt (zkG gt seed zBg [])
def zei (gt : Nat → Nat) (seed : List Nat) : List Nat := zn3 gt (zkG gt seed zBg [])
def zgM (gt : Nat → Nat) (point seed plain : List Nat) (ts : List (List Nat)) : List Nat × Int :=
 if zdB (zbu (zcw gt seed) point) then ([], 1) else
 if okT ts then (zei gt seed ++ (zc3 gt (zb5 gt (zbu (zcw gt seed) point) (zei gt seed) point) plain ts).1, 0) else ([], 4)
def zcP (gt : Nat → Nat) (sec b : List Nat) (ts : List (List Nat)) : List Nat × Int :=
 if b.length < 32 then ([], 2) else if zdB (zbu sec (b.take 32)) then ([], 1) else
 zcN gt (zb5 gt (zbu sec (b.take 32)) (b.take 32) (zdk sec)) (b.drop 32) ts
theorem zut (gt : Nat → Nat) (seed : List Nat) : (zn3 gt seed).length = 32 := zdW _
theorem zrB (gt : Nat → Nat) (seed : List Nat) : ∀ x ∈ zn3 gt seed, x < 256 := zdi _
theorem zgN (gt : Nat → Nat) (both mine theirs : List Nat) : (zb5 gt both mine theirs).length = 32 := zmD _ _ _ _
theorem zf6 (gt : Nat → Nat) (both mine theirs : List Nat) : ∀ x ∈ zb5 gt both mine theirs, x < 256 := zho _ _ _ _
theorem zo6 (gt : Nat → Nat) (seed : List Nat) : ∀ x ∈ zcw gt seed, x < 256 := zho _ _ _ _
theorem zeB (gt : Nat → Nat) (seed : List Nat) : (zei gt seed).length = 32 := zdW _
theorem zkH (gt : Nat → Nat) (seed : List Nat) : ∀ x ∈ zei gt seed, x < 256 := zdi _
theorem zhq {a b : List Nat} (ha : a.length = 32) (hb : b.length = 32) : zn0 [a, b] := ⟨by show 2 ≤ 100; decide, fun t ht => by
 simp only [List.mem_cons, List.not_mem_nil, or_false] at ht
 rcases ht with rfl | rfl <;> omega⟩
theorem zcq {gt : Nat → Nat} {sec oth mine theirs : List Nat} (h : ¬ zdB (zbu sec oth)) : zdy gt sec oth mine theirs = (zb5 gt (zbu sec oth) mine theirs, 0) := by unfold zdy; rw [if_neg h]
theorem zdX {gt : Nat → Nat} {sec oth mine theirs : List Nat} (h : zdB (zbu sec oth)) : zdy gt sec oth mine theirs = ([], 1) := by unfold zdy; rw [if_pos h]
attribute [local irreducible] zer zie zkG zbu zdk zc3 zcN zeS zgs
theorem zqy {seed : List Nat} {gt : Nat → Nat} (hs32 : seed.length = 32) (hsb : ∀ x ∈ seed, x < 256) {X : List Nat} {w0 : World} (hX : ∀ k ∈ X, k < w0.heap.size) (hG : St (AtC ⟨2, 0, none⟩ [.row 64 fun i => u32 (gt i)]) w0 X) :
  Calls Tryz.prog 7 #[.agg (ca [.key seed])] w0 fun e w' => e = .returned (.tuple #[.agg (ca [.key (zrA gt seed)]), .agg (ca [.key (zn3 gt seed)])]) ∧ Sep X [] w0 w' [] [] := by
 refine zaz Tryz.ntmps7 Tryz.func7 rfl rfl fun a E => ?_; replace E : Env a _ [(0, _)] := E
 have H : Sep X [] w0 w0 [] [(AtC ⟨2, 0, none⟩ [.row 64 fun i => u32 (gt i)])] := Sep.start hX (jJ.2 ⟨hG, fun _ h => by cases h⟩)
 refine Vr ?_; refine Wb E H fun b1 w a H E => ?_; refine Wa (z := [.key []]) E H fun b2 w a H E => ?_; refine Wa (z := [.key []]) E H fun b3 w a H E => ?_; refine Vn ?_; refine Vr ?_; refine Vv E (pkl 32 H 2) fun a E => ?_; refine Ve E ?_
 refine Vc E ?_; refine (zjR (k := seed) (lab := zzF) rfl (by decide) hs32 hsb H.xk (H.fact 0 rfl)).mono ?_; rintro e w ⟨rfl, H1⟩
 replace H := H.call H1
 clear H1; replace H : Sep _ _ _ _ [_, _, _] [_] := H; refine Vp E fun a E => ?_; refine Wa (z := [.key []]) E H fun b4 w a H E => ?_; refine Ws 0 E H fun w H => ?_; replace H : Sep _ _ _ _ [_, _, _, _] _ := H; refine Vn ?_; refine wp_seq_k fun K2 hK2 => ?_; refine zbr E H [] 3 [(0, false), (1, false), (2, true)] (by kernel_rfl) (by kernel_rfl) (fun w HS => ?_)
 (simp only [canOps, jD, jE, jF, jG])
 clear H
 have H := HS
 have hsz : w.heap.size ≤ w.heap.size := jV _
 have HK : CanB.Keep (fun k => k < w.heap.size ∧ k ∉ []) w w := CanB.Keep.refl _ _
 refine Cw E HK (zcr (n := 32) HS 0 rfl rfl rfl (HS.inS 0 rfl (by simp)) rfl (by kernel_rfl)) fun a E => ?_; refine Cw E HK (zcr (n := 32) HS 0 rfl rfl rfl (HS.inS 0 rfl (by simp)) rfl (by kernel_rfl)) fun a E => ?_; refine zfC E rfl (fun K hK => ?_); refine Vc E ?_; refine (zmF (k := zkG gt seed zzF []) H.xk (zho _ _ _ _)).mono ?_; rintro e w ⟨rfl, H1⟩
 have F := H1.frm
 replace H := H.call H1
 clear H1; replace H : Sep _ _ _ _ [_, _, _, _] [_] := H
 have hk := zaI (D := []) F hsz (by simp)
 refine hK _ _ hk ?_; clear hK K
 replace HK := HK.trans hk
 replace hsz := jU hsz (F).size
 clear hk; refine zfD E rfl rfl ?_; clear E a; intro a E; clear F; refine CanB.wpCan_nil ?_
 try (simp only [jH, jI, jF, jG])
 clear HS HK hsz; refine Ws 2 E H fun w H => ?_; replace H : Sep _ _ _ _ [_, _, _, _] _ := H; refine Ws 1 E H fun w H => ?_; replace H : Sep _ _ _ _ [_, _, _, _] _ := H; refine hK2 _ _ ?_; refine wp_ret ?_
 repeat (first | refine zat ?_ | refine zap ?_)
 refine zeO rfl E (by exact zhT (n := 32) H 2 rfl rfl rfl (by kernel_rfl)) (by exact zhT (n := 32) H 1 rfl rfl rfl (by kernel_rfl)) ?_
 exact ⟨rfl, (H.refacts (R' := []) (jK _)).popL.popL.popL.popL⟩
theorem ze8 {sec oth mine theirs : List Nat} {gt : Nat → Nat} (hsb : ∀ x ∈ sec, x < 256) (hob : ∀ x ∈ oth, x < 256) (hm32 : mine.length = 32) (hmb : ∀ x ∈ mine, x < 256) (ht32 : theirs.length = 32) (htb : ∀ x ∈ theirs, x < 256) {X : List Nat} {w0 : World} (hX : ∀ k ∈ X, k < w0.heap.size) (hG : St (AtC ⟨2, 0, none⟩ [.row 64 fun i => u32 (gt i)]) w0 X) :
  Calls Tryz.prog 14 #[.agg (ca [.key sec]), .agg (ca [.key oth]), .agg (ca [.key mine]), .agg (ca [.key theirs])] w0 fun e w' => e = .returned (.tuple #[.agg (ca [.key (zdy gt sec oth mine theirs).1]), .int .i64 (zdy gt sec oth mine theirs).2]) ∧ Sep X [] w0 w' [] [] := by
 have hB32 : (zbu sec oth).length = 32 := zn2 _ _
 refine zaz Tryz.ntmps14 Tryz.func14 rfl rfl fun a E => ?_; replace E : Env a _ [(0, _), (1, _), (2, _), (3, _)] := E
 have H : Sep X [] w0 w0 [] [(AtC ⟨2, 0, none⟩ [.row 64 fun i => u32 (gt i)])] := Sep.start hX (jJ.2 ⟨hG, fun _ h => by cases h⟩)
 refine Vr ?_; refine Wb E H fun b4 w a H E => ?_; refine Wb E H fun b5 w a H E => ?_; refine Wb E H fun b6 w a H E => ?_; refine Wb E H fun b7 w a H E => ?_; refine Wa (z := [.key []]) E H fun b8 w a H E => ?_; refine Vv E pka fun a E => ?_; refine Vn ?_; refine Vr ?_; refine Vv E (pkl 32 H 4) fun a E => ?_; refine Vv E (pkl 32 H 3) fun a E => ?_; refine Ve E ?_; refine Vc E ?_; refine (zwp (k := sec) (u := oth) H.xk hsb hob).mono ?_; rintro e w ⟨rfl, H1⟩
 replace H := H.call H1
 clear H1; replace H : Sep _ _ _ _ [_, _, _, _, _] [_] := H; refine Vp E fun a E => ?_; refine Wa (z := [.key []]) E H fun b10 w a H E => ?_; refine Ws 0 E H fun w H => ?_; replace H : Sep _ _ _ _ [_, _, _, _, _, _] _ := H; refine Vn ?_; refine wp_seq_k fun K2 hK2 => ?_; refine Vr ?_; refine Vv E (pkl 32 H 0) fun a E => ?_
 refine Vv E (ze7 (n := 32) (z := [.key []]) [.key []] rfl (by kernel_rfl) (by kernel_rfl) rfl rfl) fun a E => ?_; refine Vv E (zun rfl (⟨_, Tryz.underlying23, Tryz.underlying5, by kernel_rfl, by kernel_rfl⟩) rfl rfl) fun a E => ?_; refine Vn ?_; refine zau (d := 16) E rfl ?_ ?_
 ·skip
  clear E; intro c16 E
  have hno : zdB (zbu sec oth) := by simpa [zdB] using c16
  refine za7 E rfl ?_; refine Vr ?_; refine Vv E (ze7 (n := 32) (z := [.key []]) [.key []] rfl (by kernel_rfl) (by kernel_rfl) rfl rfl) fun a E => ?_; refine Ws 1 E H fun w H => ?_; replace H : Sep _ _ _ _ [_, _, _, _, _, _] _ := H; refine Vv E pka fun a E => ?_; refine Vn ?_; refine wp_ret ?_
  repeat (first | refine zat ?_ | refine zap ?_)
  refine zeO rfl E (by exact zhT (n := 32) H 1 rfl rfl rfl (by kernel_rfl)) (zbT rfl) ?_
  exact ⟨by rw [zdX hno], H.keepLR (L := []) (R := [])⟩
 ·skip
  clear E; intro c16 E
  have hno : ¬ zdB (zbu sec oth) := by simpa [zdB] using c16
  refine zaN E rfl ?_; refine wp_skip ?_; refine hK2 _ _ ?_; refine wp_seq_k fun K5 hK5 => ?_; refine ziw E H [] 8 (.pure 0 (.pure 2 (.pure 3 (.eff 1 (.eff 4 (.eff 5 (.pure 6 (.pure 7 .nil)) .nil) .nil) (.eff 4 (.eff 1 (.eff 5 (.pure 6 (.pure 7 .nil)) .nil) .nil) .nil))))) (by kernel_rfl) (by kernel_rfl) (fun w HS => ?_)
  simp only [CanB.opsT, jD, jE, jF, jG]
  clear H
  have H := HS
  have hsz : w.heap.size ≤ w.heap.size := jV _
  have HK : CanB.Keep (fun k => k < w.heap.size ∧ k ∉ []) w w := CanB.Keep.refl _ _
  refine zb9 E HK (zc7 (N := 32) (sz := 1) rfl (by kernel_rfl) rfl) rfl rfl rfl (fun _ _ _ _ h => h) ?_; clear E a; intro a E
  rw [show Value.slice (some ⟨b10, 0, none⟩) 32 32 = .slice (some ⟨b10, 0, none⟩) (zbu sec oth).length 32 from by rw [hB32]] at E
  refine zb9 E HK (zc7 (N := 32) (sz := 1) rfl (by kernel_rfl) rfl) rfl rfl rfl (fun _ _ _ _ h => h) ?_; clear E a; intro a E; refine zb9 E HK (zc7 (N := 32) (sz := 1) rfl (by kernel_rfl) rfl) rfl rfl rfl (fun _ _ _ _ h => h) ?_; clear E a; intro a E; refine zoA ?_ ?_
  ·skip
   refine zcJ E rfl (fun K hK => ?_); refine Vc E ?_
   have HB := H.lend 0 rfl
   have hin := zbP (k := (zbu sec oth)) (c := 32) (HB.fact 0 rfl) (by rw [zcO, zbo hB32]) (by omega) (by omega) (zgj _ _)
   refine (zjS (salt := []) (sec := (zbu sec oth)) (by show 0 ≤ 64; decide) (by omega) HB.xk zbw hin (HB.fact 1 rfl)).mono ?_; rintro e w ⟨rfl, H1⟩
   have F := H1.frm
   replace H := H.grow F
   have hk := zaI (D := []) F hsz (by simp)
   refine hK _ _ hk ?_; clear hK K
   replace HK := HK.trans hk
   replace hsz := jU hsz (F).size
   clear hk; refine zdz E rfl rfl ?_; clear E a; intro a E; clear F; clear H1 HB hin; refine zcJ E rfl (fun K hK => ?_); refine zaP (sz := 1) (z := [.one (.slice none 0 0), .one (.slice none 0 0)]) E H rfl Tryz.underlying25 (by kernel_rfl) (by decide) (by kernel_rfl) ⟨_, [.one _], 0, _, rfl, rfl, rfl, rfl, ⟨_, [.one _], 1, _, rfl, rfl, rfl, rfl, rfl⟩⟩ ?_; clear H; intro b22 w H F
   have hk := zaI (D := []) F hsz (by simp)
   refine hK _ _ hk ?_; clear hK K
   replace HK := HK.trans hk
   replace hsz := jU hsz (F).size
   clear hk; refine zdz E rfl rfl ?_; clear E a; intro a E; clear F; refine zcJ E rfl (fun K hK => ?_); refine Vc E ?_
   have HB := ((H.lend 0 rfl).lend 2 rfl).lend 2 rfl
   have hm := zbP (k := mine) (c := 32) (HB.fact 0 rfl) (by rw [zcO, zbo hm32]) (by omega) (by omega) hmb
   have ht := zbP (k := theirs) (c := 32) (HB.fact 1 rfl) (by rw [zcO, zbo ht32]) (by omega) (by omega) htb
   have hli := zes (T := zav) (its := [((mine, (some ⟨b6, 0, none⟩, 32)): List Nat × zav.μ), (theirs, (some ⟨b7, 0, none⟩, 32))]) (c := 2) (xs := [mine, theirs]) (HB.fact 2 rfl) (by rw [← zid, hm32, ht32]) (zaX (its := [_]) (q := ((theirs, (some ⟨b7, 0, none⟩, 32)): List Nat × zav.μ)) (zaX (its := []) (q := ((mine, (some ⟨b6, 0, none⟩, 32)): List Nat × zav.μ)) zb3 hm) ht) rfl (by show 2 ≤ 2; decide) (by show 2 ≤ _; decide)
   have H2 := HB.refacts (R' := [_, _]) (jJ.2 ⟨hli, jJ.2 ⟨HB.fact 3 rfl, jK _⟩⟩)
   clear HB hm ht hli; refine (zhP (k := zer gt [] [(zbu sec oth)]) (lab := zus) (ts := [mine, theirs]) rfl (by decide) (zbt _ _ _) (zcZ _ _ _) (zhq hm32 ht32) H2.xk (H2.fact 0 rfl) (H2.fact 1 rfl)).mono ?_; rintro e w ⟨rfl, H1⟩
   have F := H1.frm
   replace H := H.grow F
   have hk := zaI (D := []) F hsz (by simp)
   refine hK _ _ hk ?_; clear hK K
   replace HK := HK.trans hk
   replace hsz := jU hsz (F).size
   clear hk; refine zdz E rfl rfl ?_; clear E a; intro a E; clear F; clear H1 H2; refine zb9 E HK (zaV rfl rfl rfl) rfl rfl rfl (fun _ _ _ _ h => h) ?_; clear E a; intro a E; refine zb9 E HK (zaV rfl rfl rfl) rfl rfl rfl (fun _ _ _ _ h => h) ?_; clear E a; intro a E; refine zj4 ?_
   try (simp only [jH, jI, jF, jG])
   clear HS HK hsz; refine Ws 2 E H fun w H => ?_; replace H : Sep _ _ _ _ [_, _, _, _, _, _, _] _ := H; refine Vv E pka fun a E => ?_; refine hK5 _ _ ?_; refine wp_ret ?_
   repeat (first | refine zat ?_ | refine zap ?_)
   refine zeO rfl E (by exact zhT (n := 32) H 2 rfl rfl rfl (by kernel_rfl)) (zbT rfl) ?_
   exact ⟨by rw [zcq hno]; rfl, H.keepLR (L := []) (R := [])⟩
  ·skip
   refine zqW ?_; refine zcJ E rfl (fun K hK => ?_); refine zaP (sz := 1) (z := [.one (.slice none 0 0), .one (.slice none 0 0)]) E H rfl Tryz.underlying25 (by kernel_rfl) (by decide) (by kernel_rfl) ⟨_, [.one _], 0, _, rfl, rfl, rfl, rfl, ⟨_, [.one _], 1, _, rfl, rfl, rfl, rfl, rfl⟩⟩ ?_; clear H; intro b22 w H F
   have hk := zaI (D := []) F hsz (by simp)
   refine hK _ _ hk ?_; clear hK K
   replace HK := HK.trans hk
   replace hsz := jU hsz (F).size
   clear hk; refine zdz E rfl rfl ?_; clear E a; intro a E; clear F; refine zcJ E rfl (fun K hK => ?_); refine Vc E ?_
   have HB := H.lend 1 rfl
   have hin := zbP (k := (zbu sec oth)) (c := 32) (HB.fact 0 rfl) (by rw [zcO, zbo hB32]) (by omega) (by omega) (zgj _ _)
   refine (zjS (salt := []) (sec := (zbu sec oth)) (by show 0 ≤ 64; decide) (by omega) HB.xk zbw hin (HB.fact 1 rfl)).mono ?_; rintro e w ⟨rfl, H1⟩
   have F := H1.frm
   replace H := H.grow F
   have hk := zaI (D := []) F hsz (by simp)
   refine hK _ _ hk ?_; clear hK K
   replace HK := HK.trans hk
   replace hsz := jU hsz (F).size
   clear hk; refine zdz E rfl rfl ?_; clear E a; intro a E; clear F; clear H1 HB hin; refine zcJ E rfl (fun K hK => ?_); refine Vc E ?_
   have HB := ((H.lend 0 rfl).lend 2 rfl).lend 2 rfl
   have hm := zbP (k := mine) (c := 32) (HB.fact 0 rfl) (by rw [zcO, zbo hm32]) (by omega) (by omega) hmb
   have ht := zbP (k := theirs) (c := 32) (HB.fact 1 rfl) (by rw [zcO, zbo ht32]) (by omega) (by omega) htb
   have hli := zes (T := zav) (its := [((mine, (some ⟨b6, 0, none⟩, 32)): List Nat × zav.μ), (theirs, (some ⟨b7, 0, none⟩, 32))]) (c := 2) (xs := [mine, theirs]) (HB.fact 2 rfl) (by rw [← zid, hm32, ht32]) (zaX (its := [_]) (q := ((theirs, (some ⟨b7, 0, none⟩, 32)): List Nat × zav.μ)) (zaX (its := []) (q := ((mine, (some ⟨b6, 0, none⟩, 32)): List Nat × zav.μ)) zb3 hm) ht) rfl (by show 2 ≤ 2; decide) (by show 2 ≤ _; decide)
   have H2 := HB.refacts (R' := [_, _]) (jJ.2 ⟨hli, jJ.2 ⟨HB.fact 3 rfl, jK _⟩⟩)
   clear HB hm ht hli; refine (zhP (k := zer gt [] [(zbu sec oth)]) (lab := zus) (ts := [mine, theirs]) rfl (by decide) (zbt _ _ _) (zcZ _ _ _) (zhq hm32 ht32) H2.xk (H2.fact 0 rfl) (H2.fact 1 rfl)).mono ?_; rintro e w ⟨rfl, H1⟩
   have F := H1.frm
   replace H := H.grow F
   have hk := zaI (D := []) F hsz (by simp)
   refine hK _ _ hk ?_; clear hK K
   replace HK := HK.trans hk
   replace hsz := jU hsz (F).size
   clear hk; refine zdz E rfl rfl ?_; clear E a; intro a E; clear F; clear H1 H2; refine zb9 E HK (zaV rfl rfl rfl) rfl rfl rfl (fun _ _ _ _ h => h) ?_; clear E a; intro a E; refine zb9 E HK (zaV rfl rfl rfl) rfl rfl rfl (fun _ _ _ _ h => h) ?_; clear E a; intro a E; refine zj4 ?_
   try (simp only [jH, jI, jF, jG])
   clear HS HK hsz; refine Ws 2 E H fun w H => ?_; replace H : Sep _ _ _ _ [_, _, _, _, _, _, _] _ := H; refine Vv E pka fun a E => ?_; refine hK5 _ _ ?_; refine wp_ret ?_
   repeat (first | refine zat ?_ | refine zap ?_)
   refine zeO rfl E (by exact zhT (n := 32) H 2 rfl rfl rfl (by kernel_rfl)) (zbT rfl) ?_
   exact ⟨by rw [zcq hno]; rfl, H.keepLR (L := []) (R := [])⟩
end
section
open Go.RowKit
theorem zkI {u v : Nat → Nat} (h : ∀ i, i < 32 → u i = v i) : ∀ i, i < 32 → zht u i = zht v i := fun i hi => by
 unfold zht
 split
 ·rw [h 31 (by decide)]
 ·exact h i hi
theorem zn4 {v : Nat} (hv : v < pN) (h : ∀ i, i < 32 → zbj v i = 0) : v = 0 := by
 have h1 := zjC v hv
 have h2 : za2 (zbj v) = za2 (zbj 0) := zkz (zkI fun i hi => by rw [h i hi, zrc])
 rw [h1, zjC 0 zc1] at h2
 exact h2
theorem zkJ (f : Nat → Nat) (i : Nat) (hi : i < 32) : ((List.range 32).map f).getD i 0 = f i := by
 rw [jR, List.getElem?_map, List.getElem?_range hi]
 rfl
theorem zwq : za2 zj7 = 9 := ztw
theorem zuu (b : List Nat) : za2 (fun i => (zdk b).getD i 0) = zdA (fun i => b.getD i 0) 9 := by
 rw [← zjC (zdA (fun i => b.getD i 0) 9) (ztv _ _)]
 refine zkz (zkI fun i hi => ?_)
 show (zdk b).getD i 0 = _
 unfold zdk
 rw [zkJ _ i hi, zwq]
theorem zwr (a b : List Nat) : ¬ zdB (zbu a (zdk b)) := fun h => by
 have h1 := zum.1 h
 refine znO (fun i => a.getD i 0) (fun i => b.getD i 0) ?_
 refine zn4 (ztv _ _) fun i hi => ?_
 have h2 := h1 i hi
 unfold zbu at h2
 rw [zkJ _ i hi, zuu] at h2
 exact h2
theorem zuv {gt : Nat → Nat} {point seed plain : List Nat} {ts : List (List Nat)} (h : zdB (zbu (zcw gt seed) point)) : zgM gt point seed plain ts = ([], 1) := by unfold zgM; rw [if_pos h]
theorem zuw {gt : Nat → Nat} {point seed plain : List Nat} {ts : List (List Nat)} (h : ¬ zdB (zbu (zcw gt seed) point)) (ho : ¬ okT ts) : zgM gt point seed plain ts = ([], 4) := by unfold zgM; rw [if_neg h, if_neg ho]
theorem zo7 {gt : Nat → Nat} {point seed plain : List Nat} {ts : List (List Nat)} (h : ¬ zdB (zbu (zcw gt seed) point)) (ho : okT ts) : zgM gt point seed plain ts = (zei gt seed ++ (zc3 gt (zb5 gt (zbu (zcw gt seed) point) (zei gt seed) point) plain ts).1, 0) := by unfold zgM; rw [if_neg h, if_pos ho]
theorem zws {gt : Nat → Nat} {k plain : List Nat} {ts : List (List Nat)} (h : okT ts) : (zc3 gt k plain ts).2 = 0 := by unfold zc3; rw [if_pos h]
theorem zqz {gt : Nat → Nat} {k plain : List Nat} {ts : List (List Nat)} (h : ¬ okT ts) : zc3 gt k plain ts = ([], 4) := by unfold zc3; rw [if_neg h]
theorem zqA (a b : List Nat) : [a, b].flatten = a ++ b := by simp
attribute [local irreducible] zer zie zkG zbu zdk zc3 zcN zeS zgs zb5 zcw zei zgM
theorem zwt {PA TA : Option Addr} {pc tc : Nat} {point seed plain : List Nat} {ts : List (List Nat)} {tm : Nat → zav.μ} {gt : Nat → Nat} (hp32 : point.length = 32) (hpb : ∀ x ∈ point, x < 256) (hs32 : seed.length = 32) (hsb : ∀ x ∈ seed, x < 256) (hpl : plain.length ≤ 1048576) (hts : ts.length ≤ 1000) {X : List Nat} {w0 : World} (hX : ∀ k ∈ X, k < w0.heap.size) (hP : St (TxF PA pc plain) w0 X) (hL : St (LiF zav TA tc ts tm) w0 X) (hG : St (AtC ⟨2, 0, none⟩ [.row 64 fun i => u32 (gt i)]) w0 X) :
  Calls Tryz.prog 9 #[.agg (ca [.key point]), .agg (ca [.key seed]), .slice PA plain.length pc, .slice TA ts.length tc] w0 fun e w' => ∃ A' c', e = .returned (.tuple #[.slice A' (zgM gt point seed plain ts).1.length c', .int .i64 (zgM gt point seed plain ts).2]) ∧ Sep X [] w0 w' [] [TxF A' c' (zgM gt point seed plain ts).1] := by
 refine zaz Tryz.ntmps9 Tryz.func9 rfl rfl fun a E => ?_; replace E : Env a _ [(0, _), (1, _), (2, _), (3, _)] := E
 have H : Sep X [] w0 w0 [] [(TxF PA pc plain), (LiF zav TA tc ts tm), (AtC ⟨2, 0, none⟩ [.row 64 fun i => u32 (gt i)])] := Sep.start hX (jJ.2 ⟨hP, jJ.2 ⟨hL, jJ.2 ⟨hG, fun _ h => by cases h⟩⟩⟩)
 refine Vr ?_; refine Wb E H fun b4 w a H E => ?_; refine Wb E H fun b5 w a H E => ?_; refine Vv E pka fun a E => ?_; refine Vv E pka fun a E => ?_; refine Vn ?_; refine Vr ?_; refine Vv E (pkl 32 H 0) fun a E => ?_; refine Ve E ?_; refine Vc E ?_
 refine (zjR (k := seed) (lab := zBg) rfl (by decide) hs32 hsb H.xk (H.fact 2 rfl)).mono ?_; rintro e w ⟨rfl, H1⟩
 replace H := H.call H1
 clear H1; replace H : Sep _ _ _ _ [_, _] [_, _, _] := H; refine Vp E fun a E => ?_; refine Ve E ?_; refine Vc E ?_; refine (zqy (seed := zkG gt seed zBg []) (zmD _ _ _ _) (zho _ _ _ _) H.xk (H.fact 2 rfl)).mono ?_; rintro e w ⟨rfl, H1⟩
 replace H := H.call H1
 clear H1; replace H : Sep _ _ _ _ [_, _] [_, _, _] := H; refine Vp E fun a E => ?_; refine Vv E pkm fun a E => ?_; refine Vv E pkx fun a E => ?_; refine Vv E pkx fun a E => ?_; refine Wa (z := [.key []]) E H fun b10 w a H E => ?_; refine Wa (z := [.key []]) E H fun b11 w a H E => ?_; refine Ws 1 E H fun w H => ?_; replace H : Sep _ _ _ _ [_, _, _, _] _ := H; refine Ws 0 E H fun w H => ?_; replace H : Sep _ _ _ _ [_, _, _, _] _ := H
 replace H : Sep X [] w0 w [.blk b11 (ca [.key (zei gt seed)]) 23, .blk b10 (ca [.key (zcw gt seed)]) 23, .blk b5 (ca [.key seed]) 23, .blk b4 (ca [.key point]) 23 ] [TxF PA pc plain, LiF zav TA tc ts tm, AtC ⟨2, 0, none⟩ [.row 64 fun i => u32 (gt i)]] := by with_unfolding_all exact H
 refine Vn ?_; refine Vr ?_; refine Vv E (pkl 32 H 1) fun a E => ?_; refine Vv E (pkl 32 H 3) fun a E => ?_; refine Vv E (pkl 32 H 0) fun a E => ?_; refine Vv E (pkl 32 H 3) fun a E => ?_; refine Ve E ?_; refine Vc E ?_; refine (ze8 (sec := (zcw gt seed)) (oth := point) (mine := (zei gt seed)) (theirs := point) (zo6 _ _) hpb (zeB _ _) (zkH _ _) hp32 hpb H.xk (H.fact 2 rfl)).mono ?_; rintro e w ⟨rfl, H1⟩
 replace H := H.call H1
 clear H1; replace H : Sep _ _ _ _ [_, _, _, _] [_, _, _] := H; refine Vp E fun a E => ?_; refine Vv E pkm fun a E => ?_; refine Vv E pkx fun a E => ?_; refine Vv E pkx fun a E => ?_; refine Wa (z := [.key []]) E H fun b12 w a H E => ?_; refine Ws 0 E H fun w H => ?_; replace H : Sep _ _ _ _ [_, _, _, _, _] _ := H
 refine Vv E pka fun a E => ?_; refine Vn ?_; refine wp_seq_k fun K3 hK3 => ?_; refine Vr ?_; refine Vv E pkm fun a E => ?_; refine Vv E pki fun a E => ?_; refine Vn ?_; refine zau (d := 30) E rfl ?_ ?_
 ·skip
  clear E; intro c30 E
  have hno : zdB (zbu (zcw gt seed) point) := Classical.byContradiction fun h => by rw [zcq h] at c30; cases c30
  refine za7 E rfl ?_; refine Vr ?_; refine Vv E pkm fun a E => ?_; refine Vv E pka fun a E => ?_; refine Vv E pka fun a E => ?_; refine Vn ?_; refine wp_ret ?_
  repeat (first | refine zat ?_ | refine zap ?_)
  refine zeO rfl E (zbT rfl) (zbT rfl) ?_
  rw [zuv hno]
  exact ⟨none, 0, by rw [zdX hno]; rfl, (Sep.keepLR (L := []) (R := [_]) (H.know zbw))⟩
 ·skip
  clear E; intro c30 E
  have hno : ¬ zdB (zbu (zcw gt seed) point) := fun h => by rw [zdX h] at c30; cases c30
  rw [zcq hno] at E H
  simp only at E H
  refine zaN E rfl ?_; refine wp_skip ?_; refine hK3 _ _ ?_; refine Vr ?_; refine Vv E (pkl 32 H 0) fun a E => ?_; refine Vv E pkm fun a E => ?_; refine Vv E pkm fun a E => ?_; refine Ve E ?_; refine Vc E ?_; refine (zwn (k := (zb5 gt (zbu (zcw gt seed) point) (zei gt seed) point)) (plain := plain) (ts := ts) (zgN _ _ _ _) (zf6 _ _ _ _) hpl hts H.xk (H.fact 0 rfl) (H.fact 1 rfl) (H.fact 2 rfl)).mono ?_; rintro e w ⟨A36, c36, rfl, H1⟩
  replace H := H.call H1
  clear H1; replace H : Sep _ _ _ _ [_, _, _, _, _, _] [_, _, _] := H; refine Vp E fun a E => ?_; refine Vv E pkm fun a E => ?_; refine Vv E pkx fun a E => ?_; refine Vv E pkx fun a E => ?_; refine Vv E pka fun a E => ?_; refine Vv E pka fun a E => ?_; refine Vn ?_; refine wp_seq_k fun K7 hK7 => ?_; refine Vr ?_; refine Vv E pkm fun a E => ?_; refine Vv E pki fun a E => ?_; refine Vn ?_; refine zau (d := 40) E rfl ?_ ?_
  ·skip
   clear E; intro c40 E
   have hok : ¬ okT ts := fun h => by rw [zws h] at c40; cases c40
   refine za7 E rfl ?_; refine Vr ?_; refine Vv E pkm fun a E => ?_; refine Vv E pka fun a E => ?_; refine Vv E pka fun a E => ?_; refine Vn ?_; refine wp_ret ?_
   repeat (first | refine zat ?_ | refine zap ?_)
   refine zeO rfl E (zbT rfl) (zbT rfl) ?_
   rw [zuw hno hok]
   exact ⟨none, 0, by rw [zqz hok]; rfl, (Sep.keepLR (L := []) (R := [_]) (H.know zbw))⟩
  ·skip
   clear E; intro c40 E
   have hok : okT ts := Classical.byContradiction fun h => by rw [zqz h] at c40; cases c40
   refine zaN E rfl ?_; refine wp_skip ?_; refine hK7 _ _ ?_; refine wp_seq_k fun K10 hK10 => ?_
   have hSl := zur gt (zb5 gt (zbu (zcw gt seed) point) (zei gt seed) point) plain ts
   refine zaB ?_; refine Vv E (zc7 (N := 32) (sz := 1) rfl (by kernel_rfl) rfl) fun a E => ?_; refine Vv E pkm fun a E => ?_; refine Ve E ?_; refine zaP (sz := 1) (z := [.one (.slice none 0 0), .one (.slice none 0 0)]) E H rfl Tryz.underlying25 (by kernel_rfl) (by decide) (by kernel_rfl) ⟨_, [.one _], 0, _, rfl, rfl, rfl, rfl, ⟨_, [.one _], 1, _, rfl, rfl, rfl, rfl, rfl⟩⟩ ?_; clear H; intro b44 w H _; refine Vp E fun a E => ?_; refine Ve E ?_; refine Vc E ?_
   have HA := H.lend 0 rfl
   have HC := HA.rowTx (Sep.new_x HA) (by omega) (zrz _ _ _ _)
   have HB := HC.lend 1 rfl
   have hm := zbP (k := (zei gt seed)) (c := 32) (HB.fact 0 rfl) (by rw [zcO, zbo (zeB _ _)]) (by rw [zeB]; omega) (by rw [zeB]; omega) (zkH _ _)
   have hli := zes (T := zav) (its := [(((zei gt seed), (some ⟨b11, 0, none⟩, 32)): List Nat × zav.μ), ((zc3 gt (zb5 gt (zbu (zcw gt seed) point) (zei gt seed) point) plain ts).1, (A36, c36))]) (c := 2) (xs := [(zei gt seed), (zc3 gt (zb5 gt (zbu (zcw gt seed) point) (zei gt seed) point) plain ts).1]) (HB.fact 2 rfl) (by rw [← zid, zeB]) (zaX (its := [_]) (q := (((zc3 gt (zb5 gt (zbu (zcw gt seed) point) (zei gt seed) point) plain ts).1, (A36, c36)): List Nat × zav.μ)) (zaX (its := []) (q := (((zei gt seed), (some ⟨b11, 0, none⟩, 32)): List Nat × zav.μ)) zb3 hm) (HB.fact 1 rfl)) rfl (by show 2 ≤ 2; decide) (by show 2 ≤ _; decide)
   have H2 := HB.know hli
   clear H HA HC HB hm hli
   have H := H2
   clear H2; replace H : Sep _ _ _ _ [_, _, _, _] [_, _, _, _, _, _, _] := H; refine (zry (ps := [(zei gt seed), (zc3 gt (zb5 gt (zbu (zcw gt seed) point) (zei gt seed) point) plain ts).1]) (by rw [zqA, jQ, zeB]; omega) H.xk (H.fact 0 rfl)).mono ?_; rintro e w ⟨A45, c45, rfl, H1⟩
   replace H := H.call H1
   clear H1; replace H : Sep _ _ _ _ [_, _, _, _] [_, _, _, _, _, _, _, _] := H; refine Vp E fun a E => ?_; refine Vv E pka fun a E => ?_; refine Vv E pka fun a E => ?_; refine hK10 _ _ ?_; refine wp_ret ?_
   repeat (first | refine zat ?_ | refine zap ?_)
   refine zeO rfl E (zbT rfl) (zbT rfl) ?_
   rw [zo7 hno hok, ← zqA]
   exact ⟨A45, c45, rfl, Sep.keepLR (L := []) (R := [_]) H⟩
theorem zrC {BA TA : Option Addr} {bc tc : Nat} {sec b : List Nat} {ts : List (List Nat)} {tm : Nat → zav.μ} {gt : Nat → Nat} (hs32 : sec.length = 32) (hsb : ∀ x ∈ sec, x < 256) (hts : ts.length ≤ 1000) {X : List Nat} {w0 : World} (hX : ∀ k ∈ X, k < w0.heap.size) (hB : St (TxF BA bc b) w0 X) (hL : St (LiF zav TA tc ts tm) w0 X) (hG : St (AtC ⟨2, 0, none⟩ [.row 64 fun i => u32 (gt i)]) w0 X) :
  Calls Tryz.prog 12 #[.agg (ca [.key sec]), .slice BA b.length bc, .slice TA ts.length tc] w0 fun e w' => ∃ A' c', e = .returned (.tuple #[.slice A' (zcP gt sec b ts).1.length c', .int .i64 (zcP gt sec b ts).2]) ∧ Sep X [] w0 w' [] [TxF A' c' (zcP gt sec b ts).1] := by
 have hbl := hB.now.len
 have hbc := hB.now.cap
 have hbb := hB.now.byt
 refine zaz Tryz.ntmps12 Tryz.func12 rfl rfl fun a E => ?_; replace E : Env a _ [(0, _), (1, _), (2, _)] := E
 have H : Sep X [] w0 w0 [] [(TxF BA bc b), (LiF zav TA tc ts tm), (AtC ⟨2, 0, none⟩ [.row 64 fun i => u32 (gt i)])] := Sep.start hX (jJ.2 ⟨hB, jJ.2 ⟨hL, jJ.2 ⟨hG, fun _ h => by cases h⟩⟩⟩)
 refine Vr ?_; refine Wb E H fun b3 w a H E => ?_; refine Vv E pka fun a E => ?_; refine Vv E pka fun a E => ?_; refine Vn ?_; refine wp_seq_k fun K1 hK1 => ?_; refine Vr ?_; refine Vv E pkm fun a E => ?_; refine Vv E pkn fun a E => ?_; refine Vv E pki fun a E => ?_; refine Vn ?_; refine zau (d := 13) E rfl ?_ ?_
 ·skip
  clear E; intro c13 E
  have hlt : b.length < 32 := by have := c13; simp only [jS] at this; omega
  refine za7 E rfl ?_; refine Vr ?_; refine Vv E pka fun a E => ?_; refine Vv E pka fun a E => ?_; refine Vn ?_; refine wp_ret ?_
  repeat (first | refine zat ?_ | refine zap ?_)
  refine zeO rfl E (zbT rfl) (zbT rfl) ?_
  rw [show zcP gt sec b ts = ([], 2) from by unfold zcP; rw [if_pos hlt]]
  exact ⟨none, 0, rfl, (Sep.keepLR (L := []) (R := [_]) (H.know zbw))⟩
 ·skip
  clear E; intro c13 E
  have hlt : ¬ b.length < 32 := by have := c13; simp only [decide_eq_false_iff_not] at this; omega
  refine zaN E rfl ?_; refine wp_skip ?_; refine hK1 _ _ ?_; refine wp_seq_k fun K4 hK4 => ?_
  have hbt : (b.take 32).length = 32 := by rw [List.length_take]; omega
  replace H := H.know (zdN (hi := 32) (H.fact 0 rfl) (by omega))
  obtain ⟨ad, hBA, hTk⟩ := zup (H.fact 0 rfl) (by omega)
  subst hBA
  replace H := H.know hTk
  clear hTk; replace H : Sep _ _ _ _ [_] [_, _, _, _, _] := H; refine zaB ?_; refine Vv E pkm fun a E => ?_; refine Vv E (zeq (sz := 1) (hi := 32) rfl (by kernel_rfl) rfl rfl rfl (by omega)) fun a E => ?_
  rw [sub_zero] at E
  refine Vv E (zuo (n' := 32) (sz := 1) rfl (by kernel_rfl) rfl (by omega)) fun a E => ?_; refine Vv E (zff (n := 32) (H.fact 0 rfl) (fun _ _ _ => trivial) rfl rfl rfl (by kernel_rfl)) fun a E => ?_; refine Wa (z := [.key []]) E H fun b8 w a H E => ?_; refine Ws 0 E H fun w H => ?_; replace H : Sep _ _ _ _ [_, _] _ := H; refine hK4 _ _ ?_
  refine zrQ (fun a w => ∃ b9 b8 b3, Env a 37 [(10, .int .i64 (zdy gt sec (b.take 32) (b.take 32) (zdk sec)).2), (9, .pointer (some ⟨b9, 0, none⟩)), (1, .slice (some ad) b.length bc), (2, .slice TA ts.length tc)] ∧ Sep X [] w0 w [.blk b9 (ca [.key (zdy gt sec (b.take 32) (b.take 32) (zdk sec)).1]) 23, .blk b8 (ca [.key (b.take 32)]) 23, .blk b3 (ca [.key sec]) 23 ] [AtC ad [.key (b.take 32)], TxF (some ad) bc (b.take 32), TxF (some ad) bc b, LiF zav TA tc ts tm, AtC ⟨2, 0, none⟩ [.row 64 fun i => u32 (gt i)]]) ?_ ?_
  ·skip
   refine ziw E H [] 11 (.pure 0 (.pure 1 (.pure 2 (.pure 3 (.eff 4 (.eff 5 (.pure 6 (.pure 7 (.pure 8 (.eff 9 (.eff 10 .nil .nil) .nil)))) (.eff 9 (.eff 5 (.pure 6 (.pure 7 (.pure 8 (.eff 10 .nil .nil)))) .nil) .nil)) (.eff 9 (.eff 4 (.eff 5 (.pure 6 (.pure 7 (.pure 8 (.eff 10 .nil .nil)))) .nil) .nil) .nil)))))) (by kernel_rfl) (by kernel_rfl) (fun w HS => ?_)
   simp only [CanB.opsT, jD, jE, jF, jG]
   clear H
   have H := HS
   have hsz : w.heap.size ≤ w.heap.size := jV _
   have HK : CanB.Keep (fun k => k < w.heap.size ∧ k ∉ []) w w := CanB.Keep.refl _ _
   refine zb9 E HK (zcr (n := 32) HS 1 rfl rfl rfl (HS.inS 1 rfl (by simp)) rfl (by kernel_rfl)) rfl rfl rfl (fun _ _ _ _ h => h) ?_; clear E a; intro a E; refine zb9 E HK (zcr (n := 32) HS 0 rfl rfl rfl (HS.inS 0 rfl (by simp)) rfl (by kernel_rfl)) rfl rfl rfl (fun _ _ _ _ h => h) ?_; clear E a; intro a E; refine zb9 E HK (zcr (n := 32) HS 0 rfl rfl rfl (HS.inS 0 rfl (by simp)) rfl (by kernel_rfl)) rfl rfl rfl (fun _ _ _ _ h => h) ?_; clear E a; intro a E; refine zb9 E HK (zcr (n := 32) HS 1 rfl rfl rfl (HS.inS 1 rfl (by simp)) rfl (by kernel_rfl)) rfl rfl rfl (fun _ _ _ _ h => h) ?_; clear E a; intro a E; refine zoA ?_ ?_
   ·skip
    refine zcJ E rfl (fun K hK => ?_); refine Vc E ?_; refine (zmF (k := sec) H.xk hsb).mono ?_; rintro e w ⟨rfl, H1⟩
    have F := H1.frm
    replace H := H.call H1
    clear H1; replace H : Sep _ _ _ _ [_, _] [_, _, _, _, _] := H
    have hk := zaI (D := []) F hsz (by first | (simp; done) | (intro k hk; obtain rfl := List.mem_singleton.1 hk; exact .inr (by assumption)))
    refine hK _ _ hk ?_; clear hK K
    replace HK := HK.trans hk
    replace hsz := jU hsz (F).size
    clear hk; refine zdz E rfl rfl ?_; clear E a; intro a E; clear F; refine zoA ?_ ?_
    ·skip
     refine zcJ E rfl (fun K hK => ?_); refine Vc E ?_; refine (ze8 (sec := sec) (oth := (b.take 32)) (mine := (b.take 32)) (theirs := zdk sec) hsb (fun z hz => hbb z (List.mem_of_mem_take hz)) hbt (fun z hz => hbb z (List.mem_of_mem_take hz)) (zdW _) (zdi _) H.xk (H.fact 4 rfl)).mono ?_; rintro e w ⟨rfl, H1⟩
     have F := H1.frm
     replace H := H.call H1
     clear H1; replace H : Sep _ _ _ _ [_, _] [_, _, _, _, _] := H
     have hk := zaI (D := []) F hsz (by first | (simp; done) | (intro k hk; obtain rfl := List.mem_singleton.1 hk; exact .inr (by assumption)))
     refine hK _ _ hk ?_; clear hK K
     replace HK := HK.trans hk
     replace hsz := jU hsz (F).size
     clear hk; refine zdz E rfl rfl ?_; clear E a; intro a E; clear F; refine zb9 E HK (zgy rfl rfl) rfl rfl rfl (fun _ _ _ _ h => h) ?_; clear E a; intro a E; refine zb9 E HK (zaV rfl rfl rfl) rfl rfl rfl (fun _ _ _ _ h => h) ?_; clear E a; intro a E; refine zb9 E HK (zaV rfl rfl rfl) rfl rfl rfl (fun _ _ _ _ h => h) ?_; clear E a; intro a E; refine zcJ E rfl (fun K hK => ?_); refine zek (z := [.key []]) H rfl (by kernel_rfl) ?_; clear H; intro b9 w hnb H F
     have hnb9 := jU hsz hnb
     clear hnb
     have hk := zaI (D := []) F hsz (by first | (simp; done) | (intro k hk; obtain rfl := List.mem_singleton.1 hk; exact .inr (by assumption)))
     refine hK _ _ hk ?_; clear hK K
     replace HK := HK.trans hk
     replace hsz := jU hsz (F).size
     clear hk; refine zdz E rfl rfl ?_; clear E a; intro a E; clear F; refine zcJ E rfl (fun K hK => ?_); refine Vs 0 E H ?_; clear H; intro w H F; replace H : Sep _ _ _ _ [_, _, _] _ := H
     have hk := zaI (D := []) F hsz (by first | (simp; done) | (intro k hk; obtain rfl := List.mem_singleton.1 hk; exact .inr (by assumption)))
     refine hK _ _ hk ?_; clear hK K
     replace HK := HK.trans hk
     replace hsz := jU hsz (F).size
     clear hk; refine zkp rfl ?_; refine zj4 ?_
     try (simp only [jH, jI, jF, jG])
     clear HS HK hsz; refine Vv E pka fun a E => ?_
     exact ⟨_, _, _, E.to (by repeat (first | exact trivial | refine ⟨rfl, ?_⟩)), H⟩
    ·skip
     refine zqW ?_; refine zcJ E rfl (fun K hK => ?_); refine zek (z := [.key []]) H rfl (by kernel_rfl) ?_; clear H; intro b9 w hnb H F
     have hnb9 := jU hsz hnb
     clear hnb
     have hk := zaI (D := []) F hsz (by first | (simp; done) | (intro k hk; obtain rfl := List.mem_singleton.1 hk; exact .inr (by assumption)))
     refine hK _ _ hk ?_; clear hK K
     replace HK := HK.trans hk
     replace hsz := jU hsz (F).size
     clear hk; refine zdz E rfl rfl ?_; clear E a; intro a E; clear F; refine zcJ E rfl (fun K hK => ?_); refine Vc E ?_; refine (ze8 (sec := sec) (oth := (b.take 32)) (mine := (b.take 32)) (theirs := zdk sec) hsb (fun z hz => hbb z (List.mem_of_mem_take hz)) hbt (fun z hz => hbb z (List.mem_of_mem_take hz)) (zdW _) (zdi _) H.xk (H.fact 4 rfl)).mono ?_; rintro e w ⟨rfl, H1⟩
     have F := H1.frm
     replace H := H.call H1
     clear H1; replace H : Sep _ _ _ _ [_, _, _] [_, _, _, _, _] := H
     have hk := zaI (D := []) F hsz (by first | (simp; done) | (intro k hk; obtain rfl := List.mem_singleton.1 hk; exact .inr (by assumption)))
     refine hK _ _ hk ?_; clear hK K
     replace HK := HK.trans hk
     replace hsz := jU hsz (F).size
     clear hk; refine zdz E rfl rfl ?_; clear E a; intro a E; clear F; refine zb9 E HK (zgy rfl rfl) rfl rfl rfl (fun _ _ _ _ h => h) ?_; clear E a; intro a E; refine zb9 E HK (zaV rfl rfl rfl) rfl rfl rfl (fun _ _ _ _ h => h) ?_; clear E a; intro a E; refine zb9 E HK (zaV rfl rfl rfl) rfl rfl rfl (fun _ _ _ _ h => h) ?_; clear E a; intro a E; refine zcJ E rfl (fun K hK => ?_); refine Vs 0 E H ?_; clear H; intro w H F; replace H : Sep _ _ _ _ [_, _, _] _ := H
     have hk := zaI (D := []) F hsz (by first | (simp; done) | (intro k hk; obtain rfl := List.mem_singleton.1 hk; exact .inr (by assumption)))
     refine hK _ _ hk ?_; clear hK K
     replace HK := HK.trans hk
     replace hsz := jU hsz (F).size
     clear hk; refine zkp rfl ?_; refine zj4 ?_
     try (simp only [jH, jI, jF, jG])
     clear HS HK hsz; refine Vv E pka fun a E => ?_
     exact ⟨_, _, _, E.to (by repeat (first | exact trivial | refine ⟨rfl, ?_⟩)), H⟩
   ·skip
    refine zqW ?_; refine zcJ E rfl (fun K hK => ?_); refine zek (z := [.key []]) H rfl (by kernel_rfl) ?_; clear H; intro b9 w hnb H F
    have hnb9 := jU hsz hnb
    clear hnb
    have hk := zaI (D := []) F hsz (by first | (simp; done) | (intro k hk; obtain rfl := List.mem_singleton.1 hk; exact .inr (by assumption)))
    refine hK _ _ hk ?_; clear hK K
    replace HK := HK.trans hk
    replace hsz := jU hsz (F).size
    clear hk; refine zdz E rfl rfl ?_; clear E a; intro a E; clear F; refine zcJ E rfl (fun K hK => ?_); refine Vc E ?_; refine (zmF (k := sec) H.xk hsb).mono ?_; rintro e w ⟨rfl, H1⟩
    have F := H1.frm
    replace H := H.call H1
    clear H1; replace H : Sep _ _ _ _ [_, _, _] [_, _, _, _, _] := H
    have hk := zaI (D := []) F hsz (by first | (simp; done) | (intro k hk; obtain rfl := List.mem_singleton.1 hk; exact .inr (by assumption)))
    refine hK _ _ hk ?_; clear hK K
    replace HK := HK.trans hk
    replace hsz := jU hsz (F).size
    clear hk; refine zdz E rfl rfl ?_; clear E a; intro a E; clear F; refine zcJ E rfl (fun K hK => ?_); refine Vc E ?_; refine (ze8 (sec := sec) (oth := (b.take 32)) (mine := (b.take 32)) (theirs := zdk sec) hsb (fun z hz => hbb z (List.mem_of_mem_take hz)) hbt (fun z hz => hbb z (List.mem_of_mem_take hz)) (zdW _) (zdi _) H.xk (H.fact 4 rfl)).mono ?_; rintro e w ⟨rfl, H1⟩
    have F := H1.frm
    replace H := H.call H1
    clear H1; replace H : Sep _ _ _ _ [_, _, _] [_, _, _, _, _] := H
    have hk := zaI (D := []) F hsz (by first | (simp; done) | (intro k hk; obtain rfl := List.mem_singleton.1 hk; exact .inr (by assumption)))
    refine hK _ _ hk ?_; clear hK K
    replace HK := HK.trans hk
    replace hsz := jU hsz (F).size
    clear hk; refine zdz E rfl rfl ?_; clear E a; intro a E; clear F; refine zb9 E HK (zgy rfl rfl) rfl rfl rfl (fun _ _ _ _ h => h) ?_; clear E a; intro a E; refine zb9 E HK (zaV rfl rfl rfl) rfl rfl rfl (fun _ _ _ _ h => h) ?_; clear E a; intro a E; refine zb9 E HK (zaV rfl rfl rfl) rfl rfl rfl (fun _ _ _ _ h => h) ?_; clear E a; intro a E; refine zcJ E rfl (fun K hK => ?_); refine Vs 0 E H ?_; clear H; intro w H F; replace H : Sep _ _ _ _ [_, _, _] _ := H
    have hk := zaI (D := []) F hsz (by first | (simp; done) | (intro k hk; obtain rfl := List.mem_singleton.1 hk; exact .inr (by assumption)))
    refine hK _ _ hk ?_; clear hK K
    replace HK := HK.trans hk
    replace hsz := jU hsz (F).size
    clear hk; refine zkp rfl ?_; refine zj4 ?_
    try (simp only [jH, jI, jF, jG])
    clear HS HK hsz; refine Vv E pka fun a E => ?_
    exact ⟨_, _, _, E.to (by repeat (first | exact trivial | refine ⟨rfl, ?_⟩)), H⟩
  ·skip
   intro a w hJ
   obtain ⟨b9, b8, b3, E, H⟩ := hJ
   refine wp_seq_k fun K6 hK6 => ?_; refine Vr ?_; refine Vv E pkm fun a E => ?_; refine Vv E pki fun a E => ?_; refine Vn ?_; refine zau (d := 28) E rfl ?_ ?_
   ·skip
    clear E; intro c28 E
    have hno : zdB (zbu sec (b.take 32)) := Classical.byContradiction fun h => by rw [zcq h] at c28; cases c28
    refine za7 E rfl ?_; refine Vr ?_; refine Vv E pkm fun a E => ?_; refine Vv E pka fun a E => ?_; refine Vv E pka fun a E => ?_; refine Vn ?_; refine wp_ret ?_
    repeat (first | refine zat ?_ | refine zap ?_)
    refine zeO rfl E (zbT rfl) (zbT rfl) ?_
    rw [show zcP gt sec b ts = ([], 1) from by unfold zcP; rw [if_neg hlt, if_pos hno]]
    exact ⟨none, 0, by rw [zdX hno]; rfl, (Sep.keepLR (L := []) (R := [_]) (H.know zbw))⟩
   ·skip
    clear E; intro c28 E
    have hno : ¬ zdB (zbu sec (b.take 32)) := fun h => by rw [zdX h] at c28; cases c28
    rw [zcq hno] at E H
    simp only at E H
    refine zaN E rfl ?_; refine wp_skip ?_; refine hK6 _ _ ?_; refine wp_seq_k fun K9 hK9 => ?_
    obtain ⟨A32, c32, h32, hT32⟩ := zeE (lo := 32) (H.fact 2 rfl) (by omega)
    replace H := H.know hT32
    clear hT32; replace H : Sep _ _ _ _ [_, _, _] [_, _, _, _, _, _] := H; refine zbr E H [] 7 [(0, false), (1, false), (2, false), (3, false), (4, true), (5, false), (6, false)] (by kernel_rfl) (by kernel_rfl) (fun w HS => ?_)
    (simp only [canOps, jD, jE, jF, jG])
    clear H
    have H := HS
    have hsz : w.heap.size ≤ w.heap.size := jV _
    have HK : CanB.Keep (fun k => k < w.heap.size ∧ k ∉ []) w w := CanB.Keep.refl _ _
    refine Cw E HK (zcr (n := 32) HS 0 rfl rfl rfl (HS.inS 0 rfl (by simp)) rfl (by kernel_rfl)) fun a E => ?_; refine Cw E HK pkm fun a E => ?_; refine Cw E HK (zdS (sz := 1) (lo := 32) rfl (by kernel_rfl) rfl rfl rfl (by omega)) fun a E => ?_
    rw [h32] at E
    refine Cw E HK pkm fun a E => ?_; refine zfC E rfl (fun K hK => ?_); refine Vc E ?_; refine (zwo (k := (zb5 gt (zbu sec (b.take 32)) (b.take 32) (zdk sec))) (bs := b.drop 32) (ts := ts) (zgN _ _ _ _) (zf6 _ _ _ _) hts H.xk (H.fact 0 rfl) (H.fact 4 rfl) (H.fact 5 rfl)).mono ?_; rintro e w ⟨A34, c34, rfl, H1⟩
    have F := H1.frm
    replace H := H.call H1
    clear H1; replace H : Sep _ _ _ _ [_, _, _] [_, _, _, _, _, _, _] := H
    have hk := zaI (D := []) F hsz (by simp)
    refine hK _ _ hk ?_; clear hK K
    replace HK := HK.trans hk
    replace hsz := jU hsz (F).size
    clear hk; refine zfD E rfl rfl ?_; clear E a; intro a E; clear F; refine Cw E HK (zaV rfl rfl rfl) fun a E => ?_; refine Cw E HK (zaV rfl rfl rfl) fun a E => ?_; refine CanB.wpCan_nil ?_
    try (simp only [jH, jI, jF, jG])
    clear HS HK hsz; refine Vv E pka fun a E => ?_; refine Vv E pka fun a E => ?_; refine hK9 _ _ ?_; refine wp_ret ?_
    repeat (first | refine zat ?_ | refine zap ?_)
    refine zeO rfl E (zbT rfl) (zbT rfl) ?_
    rw [show zcP gt sec b ts = (zcN gt (zb5 gt (zbu sec (b.take 32)) (b.take 32) (zdk sec)) (b.drop 32) ts) from by unfold zcP; rw [if_neg hlt, if_neg hno]]
    exact ⟨A34, c34, rfl, Sep.keepLR (L := []) (R := [_]) H⟩
end
section
open Go.RowKit
def zBh : List Nat := 1 :: List.replicate 31 0
def zqB : List Nat := [104, 101, 108, 108, 111]
attribute [local irreducible] zeS zdh zem zgs
end
section
open Go.RowKit
def zwu (xs : List Nat) : Nat := (xs.map (min · 70000)).sum
theorem zux {xs : List Nat} {k x : Nat} (h : xs[k]? = some x) : zwu (xs.take (k + 1)) = zwu (xs.take k) + min x 70000 := by
 unfold zwu
 rw [List.take_add_one, h, List.map_append, List.sum_append]
 simp
theorem zzG (xs : List Nat) : zwu xs ≤ 70000 * xs.length := by
 unfold zwu
 induction xs with
 | nil => simp
 | cons a l ih => simp only [List.map_cons, List.sum_cons, List.length_cons]; omega
theorem zuy {xs : List Nat} {k : Nat} {z : Int} (hk : k < xs.length) (hz : xs.length ≤ 200 → z = (zwu (xs.take k) : Int)) :
  xs.length ≤ 200 → IntKind.i64.wrap (z + min ((xs[k] : Nat) : Int) 70000) = (zwu (xs.take (k + 1)) : Int) := by
 intro h
 have h1 := zzG (xs.take k)
 rw [List.length_take] at h1
 rw [hz h, zux (jP hk), zdf (by omega) (by omega)]
 omega
def zzH (xs : List (List Nat)) : Bool := decide (xs.length ≤ 200) && decide (zwu (xs.map List.length) ≤ 140000)
theorem zwv {xs : List (List Nat)} (h : zzH xs = true) : xs.length ≤ 1000 := by
 unfold zzH at h
 simp only [Bool.and_eq_true, jS] at h
 omega
theorem zA3 {X : List Nat} {w0 : World} {A A' : Option Addr} {c c' : Nat} {l l' : List Nat} (h : St (TxF A c l) w0 X) (h' : St (TxF A' c' l') w0 X) :
  Calls Tryz.prog 11 #[.slice A l.length c, .slice A' l'.length c'] w0 fun e w' => e = .returned (.bool (decide (l = l'))) ∧ w0 = w' :=
 zuU A l.length c l A' l'.length c' l' _ w0 h.now.txt h'.now.txt h.now.byt h'.now.byt
attribute [local irreducible] zuH
theorem zww {gt : Nat → Nat} {k plain : List Nat} {ts : List (List Nat)} (h : okT ts) : zc3 gt k plain ts = (zeS (zdh gt k) plain ++ zgs gt (zem gt k) (zeS (zdh gt k) plain) ts, 0) := by unfold zc3; rw [if_pos h]
theorem zuz {LA : Option Addr} {lc : Nat} {xs : List (List Nat)} {lm : Nat → zav.μ} {X : List Nat} {w0 : World} (hX : ∀ k ∈ X, k < w0.heap.size) (hL : St (LiF zav LA lc xs lm) w0 X) :
  Calls Tryz.prog 6 #[.slice LA xs.length lc] w0 fun e w' => e = .returned (.bool (zzH xs)) ∧ Sep X [] w0 w' [] [] := by
 have hLb := hL.now.big
 refine zaz Tryz.ntmps6 Tryz.func6 rfl rfl fun a E => ?_; replace E : Env a _ [(0, _)] := E
 have H : Sep X [] w0 w0 [] [(LiF zav LA lc xs lm)] := Sep.start hX (jJ.2 ⟨hL, fun _ h => by cases h⟩)
 refine Vr ?_; refine Vv E pka fun a E => ?_; refine Vn ?_; refine Vr ?_; refine Vv E pka fun a E => ?_; refine Vn ?_; refine wp_seq_k fun K2 hK2 => ?_; refine Vr ?_; refine Vv E pkm fun a E => ?_; refine Vv E pkn fun a E => ?_; refine Vv E pkm fun a E => ?_; refine Vn ?_; refine wp_block ?_
 refine zoj (γ := Nat × Int) [0, 6, 7] (fun g => [(3, .int .i64 g.2), (8, .int .i64 (g.1 : Int))]) (fun g => g.1 ≤ xs.length ∧ ((xs.map List.length).length ≤ 200 → g.2 = (zwu ((xs.map List.length).take g.1) : Int))) (fun g => xs.length - g.1) ((0, 0)) E H (by repeat (first | exact trivial | refine ⟨rfl, ?_⟩)) (⟨Nat.zero_le _, fun _ => rfl⟩) ?_; clear E H; intro g a w E H hφ; replace E : Env a _ [(3, _), (8, _), (0, _), (6, _), (7, _)] := E; replace H : Sep _ _ _ _ [] [_] := H; refine Vr ?_; refine Vv E pki fun a E => ?_; refine Vn ?_; refine wp_seq_k fun K5 hK5 => ?_; refine zau (d := 9) E rfl ?_ ?_
 ·skip
  clear E; intro c9 E
  have hk : g.1 < xs.length := by simpa using c9
  have hx0 : xs[g.1]? = some xs[g.1] := jP hk
  refine za7 E rfl ?_; refine wp_skip ?_; refine hK5 _ _ ?_; refine wp_seq_k fun K6 hK6 => ?_; refine wp_block ?_; refine Vr ?_
  obtain ⟨ad10, hA10, hc10, hn10⟩ := LiF.get (A := LA) (T := zav) (i := g.1) (x := xs[g.1]) (by exact H.fact 0 rfl) hx0
  refine Vv E (zb7 (sz := 1) hA10 rfl (by kernel_rfl) rfl rfl rfl (by omega)) fun a E => ?_
  replace H := (H.know hn10).know hc10
  clear hn10 hc10; replace H : Sep _ _ _ _ _ [_, _, _] := H; refine Vv E (zcB (H.fact 0 rfl) (fun _ _ _ => trivial) rfl rfl rfl (by kernel_rfl)) fun a E => ?_; refine Vv E pka fun a E => ?_; refine Vn ?_; refine zaB ?_; refine Vv E pkm fun a E => ?_; refine Vv E pkm fun a E => ?_; refine Vv E pkn fun a E => ?_; refine Vv E (zzW rfl rfl rfl) fun a E => ?_; refine Vv E pki fun a E => ?_; refine Vv E pka fun a E => ?_; refine hK6 _ _ ?_; refine zaB ?_; refine Vv E (zaK rfl rfl rfl rfl (zdf (by omega) (by omega))) fun a E => ?_; refine Vv E pkm fun a E => ?_; refine za9 ?_
  exact ⟨(g.1 + 1, IntKind.i64.wrap (g.2 + min ((xs[g.1].length : Nat) : Int) 70000)), ⟨E.to (by repeat (first | exact trivial | refine ⟨rfl, ?_⟩)), H.pop.pop, ⟨by omega, fun h => by have := zuy (xs := (xs.map List.length)) (k := g.1) (by rw [List.length_map]; omega) hφ.2 h; rw [List.getElem_map] at this; exact this⟩⟩, by omega⟩
 ·skip
  clear E; intro c9 E
  have hk : ¬ g.1 < xs.length := by simpa using c9
  refine zaN E rfl ?_; refine wp_exit ?_
  repeat (first | refine za4 ?_ | refine za5 ?_ | refine zaW (by decide) ?_)
  refine hK2 _ _ ?_; refine Vr ?_; refine Vv E pkm fun a E => ?_; refine Vv E pkn fun a E => ?_; refine Vv E pki fun a E => ?_; refine Vv E pkm fun a E => ?_; refine zau (d := 21) E rfl ?_ ?_
  ·skip
   clear E; intro c21 E; refine Vv E pkm fun a E => ?_; refine Vv E pki fun a E => ?_; refine Vv E (zep rfl rfl rfl) fun a E => ?_; refine Vv E pka fun a E => ?_; refine Vn ?_; refine wp_ret ?_
   repeat (first | refine zat ?_ | refine zap ?_)
   refine zf8 rfl E (zbT rfl) ?_; refine ⟨?_, H.keepLR (L := []) (R := [])⟩
   have hg : g.1 = xs.length := by omega
   have hz := hφ.2
   rw [hg, ← List.length_map (f := List.length), List.take_length, List.length_map] at hz
   have e : zzH xs = (decide (xs.length ≤ 200) && decide (g.2 ≤ 140000)) := by
    unfold zzH
    by_cases h : xs.length ≤ 200
    ·rw [hz h]; congr 1; rw [Bool.eq_iff_iff]; simp; omega
    ·rw [decide_eq_false h, Bool.false_and, Bool.false_and]
   rw [e]
   clear e hz hφ
   simp_all
   try omega
  ·skip
   clear E; intro c21 E; refine zmM E rfl rfl rfl ?_; clear E a; intro a E; refine zmM E rfl rfl rfl ?_; clear E a; intro a E; refine Vv E (zep rfl rfl rfl) fun a E => ?_; refine Vv E pka fun a E => ?_; refine Vn ?_; refine wp_ret ?_
   repeat (first | refine zat ?_ | refine zap ?_)
   refine zf8 rfl E (zbT rfl) ?_; refine ⟨?_, H.keepLR (L := []) (R := [])⟩
   have hg : g.1 = xs.length := by omega
   have hz := hφ.2
   rw [hg, ← List.length_map (f := List.length), List.take_length, List.length_map] at hz
   have e : zzH xs = (decide (xs.length ≤ 200) && decide (g.2 ≤ 140000)) := by
    unfold zzH
    by_cases h : xs.length ≤ 200
    ·rw [hz h]; congr 1; rw [Bool.eq_iff_iff]; simp; omega
    ·rw [decide_eq_false h, Bool.false_and, Bool.false_and]
   rw [e]
   clear e hz hφ
   simp_all
   try omega
end
section
open Go.RowKit
def zCg : List Nat := 2 :: List.replicate 31 0
theorem zuA : okT [] := fun t h => by cases h
theorem zA4 (gt : Nat → Nat) (a s : List Nat) : ¬ zdB (zbu a (zn3 gt s)) := zwr a (zrA gt s)
theorem zwx {gt : Nat → Nat} {k plain : List Nat} {ts : List (List Nat)} (h : okT ts) : (zc3 gt k plain ts).1.length = plain.length + 16 := by
 rw [zww h]
 show (zeS _ _ ++ zgs _ _ _ _).length = _
 rw [jQ, zfx, zhm]
theorem zwy {gt : Nat → Nat} {point seed plain : List Nat} {ts : List (List Nat)} (h : ¬ zdB (zbu (zcw gt seed) point)) (ho : okT ts) : (zgM gt point seed plain ts).1.length = plain.length + 48 := by
 rw [zo7 h ho]
 show (zei gt seed ++ (zc3 gt _ plain ts).1).length = _
 rw [jQ, zeB, zwx ho]
 omega
theorem zwz {gt : Nat → Nat} {point seed plain : List Nat} {ts : List (List Nat)} (h : ¬ zdB (zbu (zcw gt seed) point)) (ho : okT ts) : (zgM gt point seed plain ts).2 = 0 := by rw [zo7 h ho]
attribute [local irreducible] zer zie zkG zbu zdk zc3 zcN zeS zgs zb5 zcw zei zgM zdy zrA zn3 zcP
theorem zrD {gt : Nat → Nat} {X : List Nat} {w0 : World} (hX : ∀ k ∈ X, k < w0.heap.size) (hG : St (AtC ⟨2, 0, none⟩ [.row 64 fun i => u32 (gt i)]) w0 X) :
  Calls Tryz.prog 5 #[] w0 fun e w' => e = .returned (.bool true) ∧ Sep X [] w0 w' [] [] := by
 have hn := zA4 gt (zcw gt zCg) zBh
 have hk2 := zwz (plain := zqB) hn zuA
 have hkl := zwy (plain := zqB) hn zuA
 refine zaz Tryz.ntmps5 Tryz.func5 rfl rfl fun a E => ?_; replace E : Env a _ [] := E
 have H : Sep X [] w0 w0 [] [(AtC ⟨2, 0, none⟩ [.row 64 fun i => u32 (gt i)])] := Sep.start hX (jJ.2 ⟨hG, fun _ h => by cases h⟩)
 refine Vr ?_; refine Vv E pka fun a E => ?_; refine Vn ?_; refine Vr ?_
 refine Vv E (ze7 (n := 32) (z := [.one (.int .u8 0), .one (.int .u8 0), .one (.int .u8 0), .one (.int .u8 0), .one (.int .u8 0), .one (.int .u8 0), .one (.int .u8 0), .one (.int .u8 0), .one (.int .u8 0), .one (.int .u8 0), .one (.int .u8 0), .one (.int .u8 0), .one (.int .u8 0), .one (.int .u8 0), .one (.int .u8 0), .one (.int .u8 0), .one (.int .u8 0), .one (.int .u8 0), .one (.int .u8 0), .one (.int .u8 0), .one (.int .u8 0), .one (.int .u8 0), .one (.int .u8 0), .one (.int .u8 0), .one (.int .u8 0), .one (.int .u8 0), .one (.int .u8 0), .one (.int .u8 0), .one (.int .u8 0), .one (.int .u8 0), .one (.int .u8 0), .one (.int .u8 0)]) [.key zBh] rfl (by kernel_rfl) (by kernel_rfl) ⟨_, [.one _], 0, _, rfl, rfl, rfl, rfl, rfl⟩ rfl) fun a E => ?_; refine Ve E ?_; refine Vc E ?_
 refine (zqy (seed := zBh) (by decide) (by decide) H.xk (H.fact 0 rfl)).mono ?_; rintro e w ⟨rfl, H1⟩
 replace H := H.call H1
 clear H1; replace H : Sep _ _ _ _ [] [_] := H; refine Vp E fun a E => ?_; refine Vv E pkm fun a E => ?_; refine Vv E pkx fun a E => ?_; refine Vv E pkx fun a E => ?_; refine Wa (z := [.key []]) E H fun b1 w a H E => ?_; refine Wa (z := [.key []]) E H fun b2 w a H E => ?_; refine Ws 1 E H fun w H => ?_; replace H : Sep _ _ _ _ [_, _] _ := H; refine Ws 0 E H fun w H => ?_; replace H : Sep _ _ _ _ [_, _] _ := H; refine Vn ?_; refine Vr ?_; refine Vv E (pkl 32 H 0) fun a E => ?_
 refine Vv E (ze7 (n := 32) (z := [.one (.int .u8 0), .one (.int .u8 0), .one (.int .u8 0), .one (.int .u8 0), .one (.int .u8 0), .one (.int .u8 0), .one (.int .u8 0), .one (.int .u8 0), .one (.int .u8 0), .one (.int .u8 0), .one (.int .u8 0), .one (.int .u8 0), .one (.int .u8 0), .one (.int .u8 0), .one (.int .u8 0), .one (.int .u8 0), .one (.int .u8 0), .one (.int .u8 0), .one (.int .u8 0), .one (.int .u8 0), .one (.int .u8 0), .one (.int .u8 0), .one (.int .u8 0), .one (.int .u8 0), .one (.int .u8 0), .one (.int .u8 0), .one (.int .u8 0), .one (.int .u8 0), .one (.int .u8 0), .one (.int .u8 0), .one (.int .u8 0), .one (.int .u8 0)]) [.key zCg] rfl (by kernel_rfl) (by kernel_rfl) ⟨_, [.one _], 0, _, rfl, rfl, rfl, rfl, rfl⟩ rfl) fun a E => ?_; refine Ve E ?_
 refine zaP (sz := 1) (z := [.one (.int .u8 0), .one (.int .u8 0), .one (.int .u8 0), .one (.int .u8 0), .one (.int .u8 0)]) E H rfl Tryz.underlying24 (by kernel_rfl) (by decide) (by kernel_rfl) ⟨_, [.one _], 0, _, rfl, rfl, rfl, rfl, ⟨_, [.one _], 1, _, rfl, rfl, rfl, rfl, ⟨_, [.one _], 2, _, rfl, rfl, rfl, rfl, ⟨_, [.one _], 3, _, rfl, rfl, rfl, rfl, ⟨_, [.one _], 4, _, rfl, rfl, rfl, rfl, rfl⟩⟩⟩⟩⟩ ?_; clear H; intro b13 w H _; refine Vp E fun a E => ?_; refine Ve E ?_; refine zeA 0 E H rfl rfl Tryz.underlying24 Tryz.underlying5 rfl rfl ?_; clear H; intro w H F; replace H : Sep _ _ _ _ [_, _] [_, _] := H; refine Vp E fun a E => ?_; clear F; refine Ve E ?_
 refine Vc E ?_
 have hinf := zbP (k := zqB) (c := 5) (H.fact 0 rfl) rfl (by show 5 ≤ 5; decide) (by show 5 ≤ _; decide) (by decide)
 refine (zwt (point := zn3 gt zBh) (seed := zCg) (plain := zqB) (ts := []) (tm := fun _ => zav.dft) (zut _ _) (zrB _ _) (by decide) (by decide) (by decide) (by show 0 ≤ 1000; decide) H.xk hinf zoh (H.fact 1 rfl)).mono ?_; rintro e w ⟨A15, c15, rfl, H1⟩
 replace H := H.call H1
 clear H1; replace H : Sep _ _ _ _ [_, _] [_, _, _] := H; refine Vp E fun a E => ?_; clear hinf; refine Vv E pkm fun a E => ?_; refine Vv E pkx fun a E => ?_; refine Vv E pkx fun a E => ?_; refine Vv E pka fun a E => ?_; refine Vv E pka fun a E => ?_; refine Vn ?_; refine Vr ?_; refine Vv E pkm fun a E => ?_; refine Vv E (zbD (v := .bool true) rfl rfl rfl (congrArg (fun b => some (Value.bool b)) (by rw [hk2]; rfl))) fun a E => ?_; refine Vv E pkm fun a E => ?_
 refine Vv E pkm fun a E => ?_; refine Vv E pkn fun a E => ?_; refine Vv E (zbD (v := .bool true) rfl rfl rfl (congrArg (fun b => some (Value.bool b)) (by rw [hkl]; rfl))) fun a E => ?_; refine Vv E (zep rfl rfl rfl) fun a E => ?_; refine Vv E pka fun a E => ?_; refine Vn ?_; refine wp_ret ?_
 repeat (first | refine zat ?_ | refine zap ?_)
 refine zf8 rfl E (zbT rfl) ?_
 exact ⟨rfl, H.keepLR (L := []) (R := [])⟩
end
end Go.Proofs.YtfolbgiekbimpaaGreatDoor
