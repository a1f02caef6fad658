/- The sum of a tree of one leaf. Members (layer 17), by computing. ratchet.Check: a range over slices.Backward. Members that may be (layer 17), by computing. Layer 17's example, and what is plain about a member that is alone. The document's secrets of nodes, and the law StateSecrets, by computing. -/
import Derived.Test.YtcmmpiaogfnmoaaGreatDoorStateSecretsH
set_option linter.unusedSimpArgs false
set_option linter.unusedVariables false
set_option maxRecDepth 200000
set_option maxHeartbeats 6000000
namespace Go.Proofs.YtcmmpiaogfnmoaaGreatDoor
section
open Go.RowKit
def zpX : List Nat := [108, 101, 97, 102]
def zbp (kd id : Int) (p : List Nat) : Tre := ⟨kd, [id], [], [p]⟩
def zjo : Nd := ⟨0, 0, false, 0, 0 + 1, [], -1⟩
theorem zoy (kd id : Int) (p : List Nat) : (zbp kd id p).fits :=
 ⟨fun l h => (by cases h), (by show 0 ≤ 1000; decide), fun _ _ => ⟨0, rfl, by decide, by show 0 ≤ 1000000; decide⟩⟩
theorem zr9 {kd id : Int} {p : List Nat} (hm : zh4 kd [id] [] = true) (hp : zdI [] ≠ zdI p) : (zbp kd id p).nodes = ([zjo], 0) := by
 have hall : (zbp kd id p).all = ([zjo], 0) := by
  unfold Tre.all zv0 zbp
  rw [if_pos hm]
  rfl
 unfold Tre.nodes
 have : (zbp kd id p).ok = true := by
  unfold Tre.ok
  rw [hall]
  simp [zbp, hp]
 rw [if_pos this, hall]
def zfW (gt : Nat → Nat) (id : Int) (p : List Nat) : List Nat := znA gt [zcC [zpX, beL 4 id.toNat, p]]
theorem zGG (a b c : List Nat) : (zcC [a, b, c]).length = 6 + a.length + b.length + c.length := by
 show ((beL 2 a.length ++ a) ++ ((beL 2 b.length ++ b) ++ ((beL 2 c.length ++ c) ++ []))).length = _
 simp only [jQ, zdH, List.length_nil]
 omega
section
variable {X : List Nat} {w : World} {gt : Nat → Nat}
theorem zwP {kd id : Int} {p : List Nat} (hm : zh4 kd [id] [] = true) (hp : zdI [] ≠ zdI p) (hid : zFr id) (h32 : p.length = 32) (hpb : ∀ x ∈ p, x < 256) (hX : ∀ k ∈ X, k < w.heap.size) (q1 q2 q3 : Qd) (hq1 : St (SlQ zbb [id] q1) w X) (hq2 : St (SlQ (zgR zbb) [] q2) w X) (hq3 : St (SlQ zfn [p] q3) w X) (hG : St (zbH gt 2) w X) :
  Ct Tryz.prog 57 [(zbp kd id p).val q1 q2 q3] X w (.tup [.s (.p (.hd 0 1)), .s (.p (.v (.int .i64 0)))]) [zbA zfn [zfW gt id p] 23] [] := by
 obtain ⟨n, rfl⟩ : ∃ n : Nat, id = n := ⟨id.toNat, by unfold zFr at hid; omega⟩
 have hn : n ≤ 1048576 := by unfold zFr at hid; omega
 refine vFn (k0 := 3) (rs := [.tmp 2, .tmp 3]) (svs := [.a (.agg [zfU kd, .one (.p (.hd 0 1)), .one (.p (.hd 1 0)), .one (.p (.hd 2 1))])]) (R0 := [.sl 0 1 (SlF zbb [(n : Int)]), .sl 1 0 (SlF (zgR zbb) []), .sl 2 1 (SlF zfn [p]), .c (zbH gt 2)]) (hnQ [q1, q2, q3]) Tryz.ntmps57 Tryz.func57 rfl rfl rfl rfl rfl zan (by kernel_rfl) hX (fun r hr => by
  rcases List.mem_cons.1 hr with rfl | hr
  ·exact hq1
  rcases List.mem_cons.1 hr with rfl | hr
  ·exact hq2
  rcases List.mem_cons.1 hr with rfl | hr
  ·exact hq3
  ·rcases List.mem_singleton.1 hr with rfl; exact hG) ?_
 conv => whnf
 refine zae (sv := .tup [.s (.p (.hd 0 1)), .s (.p (.v (.int .i64 0)))]) (rs := [.gone]) (Rs := [.sl 0 1 (SlF zbS [zjo])]) rfl rfl rfl (by kernel_rfl) (fun h X w H => by
  have := zoj H.xk (zbp kd n p) (zoy kd n p) (h.r 0) (h.r 1) (h.r 2) (H.fact 0 rfl) (H.fact 1 rfl) (H.fact 2 rfl)
  rw [zr9 hm hp] at this
  exact this) rfl rfl rfl ?_
 conv => whnf
 refine zbO (zzT (T := zfn) (e := 23) (d := []) (c := [.key []]) (by_ := 32) (n := 1) ⟨by kernel_rfl, by kernel_rfl⟩ rfl rfl rfl rfl rfl rfl rfl (by decide) (by decide)) rfl rfl ?_
 conv => whnf
 obtain ⟨s, hs⟩ : ∃ s, s = zfW gt n p := ⟨_, rfl⟩
 rw [← hs]
 refine ⟨Nat, fun k l m R i => ⟨k, (29, zaD .i64 i) :: za2 [2, 3, 1, 6, 27, 28] l, (5, zbA zfn [if i = 0 then [] else s] 23) :: m, R⟩, fun i => i ≤ 1, fun i => 1 - i, ⟨0, [], [0, 1, 2, 3, 4], by decide, za3⟩, fun i hi => ?_⟩
 conv => whnf
 refine vIf (fun hc => ?_) fun hc => ?_
 ·have hi0 : i = 0 := by
   have : (i : Int) < 1 := of_decide_eq_true hc
   omega
  subst hi0
  conv => whnf
  refine ⟨0, ⟨rfl, by decide, by decide⟩, ?_⟩
  conv => whnf
  refine zbO (ziH zrK (T := zbS) (x := zjo) (n := 7) (off := 0) (sub := [zfU 0, zfU 0, .one (.p (.v (.bool false))), zfU 0, zfU 1, .one (.p (.hd 6 0)), zfU (-1)]) (Rs := []) 0 (fun μ => [μ]) 1 rfl rfl rfl rfl (by kernel_rfl) (.inl ⟨rfl, rfl⟩) (fun μ h hh => by
   have e : h.r 6 = μ := hh 0 (by omega)
   show some [Chunk.one (.int .i64 0), .one (.int .i64 0), .one (.bool false), .one (.int .i64 0), .one (.int .i64 (0 + 1)), .one (.slice μ.1 0 μ.2), .one (.int .i64 (-1))] = some _
   rw [← e]
   rfl) fun μ h w Y hh hn r hr => by cases hr) rfl rfl ?_
  conv => whnf
  refine zaH (ze4 (i := 8) (n := 4) (e := 5) rfl rfl rfl (by kernel_rfl) (by kernel_rfl)) ?_
  conv => whnf
  refine ⟨0, ⟨rfl, by decide, by decide⟩, ?_⟩
  conv => whnf
  refine zbO (znx (xs := [p]) (x := p) (j := 0) 4 rfl rfl h32 hpb rfl (by kernel_rfl) rfl) rfl rfl ?_
  conv => whnf
  refine .inl ?_
  conv => whnf
  refine ⟨0, ⟨rfl, by decide, by decide⟩, ?_⟩
  conv => whnf
  refine zb4 (zcb (T := zbb) (xs := [(n : Int)]) (j := 0) (sv := zaD .i64 n) 3 rfl (fun _ => rfl) rfl rfl rfl (by kernel_rfl) (fun _ => .inr ⟨rfl, rfl, rfl⟩)) rfl rfl ?_
  conv => whnf
  refine zA9 (by omega) (by omega) ?_
  conv => whnf
  obtain ⟨nb, hnb⟩ : ∃ nb, nb = beL 4 n := ⟨_, rfl⟩
  have hnl : nb.length = 4 := by rw [hnb]; simp [beL, beK]
  refine zaT (zba [11] rfl rfl (zaE (sv := .tup [.s (.p (.hd 12 nb.length)), .s (.p (.v (.int .i64 0)))]) (rs := [.gone]) (Rs := [.sl 12 nb.length (TxG nb)]) (zab (sv := .tup [.s (.p (.hd 0 nb.length)), .s (.p (.v (.int .i64 0)))]) (rs := [.gone]) (Rs := [.sl 0 nb.length (TxG nb)]) rfl rfl rfl (by kernel_rfl) rfl fun h X w H => ?_) rfl rfl)) ?_
  ·rw [hnb]
   exact zwH (W := 4) (n := n) (b := h.b 11) (by decide) (by decide) (by omega) (by omega) H.xk (H.fact 0 rfl)
  conv => whnf
  refine zaH (ze4 (i := 13) (n := 4) (e := 5) rfl rfl rfl (by kernel_rfl) (by kernel_rfl)) ?_
  conv => whnf
  refine ⟨0, ⟨rfl, by decide, by decide⟩, ?_⟩
  conv => whnf
  refine zbO (znx (xs := [p]) (x := p) (j := 0) 8 rfl rfl h32 hpb rfl (by kernel_rfl) rfl) rfl rfl ?_
  conv => whnf
  refine ⟨Unit, fun k l m R _ => ⟨k, (81, zaD .i64 0) :: za2 [2, 3, 1, 6, 7, 9, 27, 28, 29, 80] l, m, R⟩, fun _ => True, fun _ => 0, ⟨(), [], [0, 1, 2, 3, 4, 5, 6, 7, 8, 9, 10], trivial, za3⟩, fun _ _ => ?_⟩
  conv => whnf
  obtain ⟨t1, ht1⟩ : ∃ t1, t1 = [] ++ zcC [zpX, nb, p] := ⟨_, rfl⟩
  have ht1e : t1 = zcC [zpX, nb, p] := by rw [ht1, List.nil_append]
  refine zaT (zba [15] rfl rfl (zaE (sv := .tup [.s (.p (.hd 16 t1.length)), .s (.p (.v (.int .i64 0)))]) (rs := [.gone]) (Rs := [.sl 16 t1.length (TxG t1)]) (zab (sv := .tup [.s (.p (.hd 0 t1.length)), .s (.p (.v (.int .i64 0)))]) (rs := [.gone]) (Rs := [.sl 0 t1.length (TxG t1)]) rfl rfl rfl (by kernel_rfl) rfl fun h X w H => ?_) rfl rfl)) ?_
  ·have h5 := H.fact 0 rfl
   have h3 := H.fact 2 rfl
   have e : zaC h [.one (.p (.sl 13 0 4 4)), .one (.p (.hd 12 nb.length)), .one (.p (.hd 14 32))] = zcB [zpX, nb, p] [(some ⟨h.b 13, 0, none⟩, 4), h.r 12, h.r 14] := by
    simp only [zcB, h32]
    rfl
   have := zpT (m0 := []) (ts := [zpX, nb, p]) (q := (none, 0)) (q2 := (some ⟨h.b 15, 0, none⟩, 3)) (fun x hx => by
    rcases List.mem_cons.1 hx with rfl | hx
    ·decide
    rcases List.mem_cons.1 hx with rfl | hx
    ·omega
    ·rcases List.mem_singleton.1 hx with rfl; omega) (by simp) (by simp) H.xk zkL (zcM (ql := [(some ⟨h.b 13, 0, none⟩, 4), h.r 12, h.r 14]) rfl (by simp) (by rw [← e]; exact h5) fun t x hx => by
    match t with
    | 0 => obtain rfl := Option.some.inj hx; exact zfp h3 rfl (jV _) (by decide) (by decide)
    | 1 => obtain rfl := Option.some.inj hx; exact zeB (H.fact 3 rfl)
    | 2 => obtain rfl := Option.some.inj hx; exact (show St (fun w => ((h.r 14).1 = none → 32 = 0) ∧ TxG p (h.r 14) w) _ _ from H.fact 1 rfl).imp fun w hw => hw.2
    | t + 3 => simp at hx)
   rw [← ht1] at this
   exact this
  conv => whnf
  have hs2 : znA gt [t1] = s := by rw [hs, ht1e, zfW, Int.toNat_natCast, hnb]
  refine zaH (zba [17] rfl rfl (zaE (sv := .a (.agg [.key s])) (rs := []) (Rs := []) (zab (sv := .a (.agg [.key s])) (rs := []) (Rs := []) rfl rfl rfl (by kernel_rfl) rfl fun h X w H => hs2 ▸ zuM (ps := [t1]) (q := (some ⟨h.b 17, 0, none⟩, 1)) H.xk (fun x hx => by
   rcases List.mem_singleton.1 hx with rfl
   rw [ht1e, zGG]
   show 6 + 4 + nb.length + p.length ≤ _
   omega) (by simp) (zcM (ql := [h.r 16]) rfl (by simp) (H.fact 0 rfl) fun t x hx => by
   match t with
   | 0 => obtain rfl := Option.some.inj hx; exact zeB (H.fact 1 rfl)
   | t + 1 => simp at hx) (H.fact 13 rfl)) rfl rfl)) ?_
  conv => whnf
  refine ⟨0, ⟨rfl, Nat.zero_lt_one, Nat.zero_lt_one⟩, ?_⟩
  conv => whnf
  refine zaH (znp (T := zfn) (e := 23) s zan rfl rfl rfl rfl rfl rfl rfl (fun _ => trivial) fun _ _ => rfl) ?_
  conv => whnf
  refine zc2 (by omega) (by omega) ?_
  conv => whnf
  exact ⟨1, [], [9, 10, 11, 12, 13], ⟨jV _, Nat.zero_lt_one⟩, za3⟩
 ·obtain rfl : i = 1 := by
   have : ¬ (i : Int) < 1 := of_decide_eq_false hc
   omega
  conv => whnf
  exact zaZ [(0, 5)] [] (.inl rfl) ⟨.inl rfl, trivial⟩ rfl trivial
theorem zwQ {kd id : Int} {p : List Nat} (hm : zh4 kd [id] [] = true) (hp : zdI [] ≠ zdI p) (hid : zFr id) (h32 : p.length = 32) (hpb : ∀ x ∈ p, x < 256) (hX : ∀ k ∈ X, k < w.heap.size) (q1 q2 q3 : Qd) (hq1 : St (SlQ zbb [id] q1) w X) (hq2 : St (SlQ (zgR zbb) [] q2) w X) (hq3 : St (SlQ zfn [p] q3) w X) (hG : St (zbH gt 2) w X) :
  Ct Tryz.prog 32 [(zbp kd id p).val q1 q2 q3] X w (.tup [.agg [.key (zfW gt id p)], .s (.p (.v (.int .i64 0)))]) [] [] := by
 refine vFn (k0 := 3) (rs := [.cell 2 23, .tmp 3]) (svs := [.a (.agg [zfU kd, .one (.p (.hd 0 1)), .one (.p (.hd 1 0)), .one (.p (.hd 2 1))])]) (R0 := [.sl 0 1 (SlF zbb [id]), .sl 1 0 (SlF (zgR zbb) []), .sl 2 1 (SlF zfn [p]), .c (zbH gt 2)]) (hnQ [q1, q2, q3]) Tryz.ntmps32 Tryz.func32 rfl rfl rfl rfl rfl zan (by kernel_rfl) hX (fun r hr => by
  rcases List.mem_cons.1 hr with rfl | hr
  ·exact hq1
  rcases List.mem_cons.1 hr with rfl | hr
  ·exact hq2
  rcases List.mem_cons.1 hr with rfl | hr
  ·exact hq3
  ·rcases List.mem_singleton.1 hr with rfl; exact hG) ?_
 conv => whnf
 obtain ⟨s, hs⟩ : ∃ s, s = zfW gt id p := ⟨_, rfl⟩
 rw [← hs]
 refine zae (sv := .tup [.s (.p (.hd 0 1)), .s (.p (.v (.int .i64 0)))]) (rs := [zbA zfn [s] 23]) (Rs := []) rfl rfl rfl (by kernel_rfl) (fun h X w H => hs ▸ zwP hm hp hid h32 hpb H.xk (h.r 0) (h.r 1) (h.r 2) (H.fact 0 rfl) (H.fact 1 rfl) (H.fact 2 rfl) (H.fact 3 rfl)) rfl rfl rfl ?_
 conv => whnf
 refine ⟨0, rfl, ?_⟩
 conv => whnf
 refine ⟨0, ⟨rfl, Nat.zero_lt_one, Nat.zero_lt_one⟩, ?_⟩
 conv => whnf
 refine zb4 (ziJ (T := zfn) (n := 32) (off := 0) (sub := [.key s]) (x := s) (sv := .a (.agg [.key s])) (e := 23) rfl rfl (fun _ => rfl) rfl rfl (by kernel_rfl) (fun _ => .inl ⟨rfl, rfl⟩)) rfl rfl ?_
 conv => whnf
 exact zav rfl
end
end
section
open Go.RowKit
theorem zjp {α : Type} {T : Ty α} {x : α} {μ : T.μ} {ad : Addr} {w : World} {Y : List Nat} (hat : St (AtC ad (T.ch x μ)) w Y) (hn : St (T.nest x μ) w Y) : St (SlQ T [x] (some ad, 1)) w Y := fun w' hk =>
 ⟨fun e => (by cases e), fun _ => μ, ⟨jV _, (by show 1 ≤ 9223372036854775807; decide), fun e => (by cases e), fun ad' e t y hy => by
  obtain rfl := Option.some.inj e
  match t with
  | 0 => obtain rfl := Option.some.inj hy; rw [Nat.zero_mul, zax]; exact ⟨hat w' hk, hn w' hk⟩
  | t + 1 => simp at hy⟩⟩
theorem zeQ {w : World} {Y : List Nat} : St (fun _ => True) w Y := fun _ _ => trivial
def zpY : List Nat := [106, 111, 105, 110, 101, 114]
def zwR : List Nat := List.replicate 32 0
def zjq (gt : Nat → Nat) (seed : List Nat) : List Nat := zer gt seed zpX []
def zFP (gt : Nat → Nat) (n : Nat) (seed : List Nat) : List Nat := zr7 gt (zer gt seed zpY []) 0 (zfW gt n (zjn gt (zjq gt seed))) zwR
def zAx (gt : Nat → Nat) (n : Nat) (seed : List Nat) : List Nat := zer gt (zFP gt n seed) zDG []
structure Epo where
 n : Nat
 init : List Nat
 app : List Nat
 confirm : List Nat
 member : List Nat
 hash : List Nat
structure Mem where
 t : Tre
 id : Int
 leaf : List Nat
 ahead : List Nat
 secrets : List (List Nat)
 e : Epo
 chains : List Rat
abbrev zFs (x : Mem) (i : Nat) : SA := .agg [zfU x.t.kd, .one (.p (.hd i x.t.ids.length)), .one (.p (.hd (i + 1) x.t.ls.length)), .one (.p (.hd (i + 2) x.t.ps.length)), zfU x.id, .key x.leaf, .key x.ahead, .one (.p (.hd (i + 3) x.secrets.length)), .one (.p (.v (.int .u64 ((x.e.n : Nat) : Int)))), .key x.e.init, .key x.e.app, .key x.e.confirm, .key x.e.member, .key x.e.hash, .one (.p (.hd (i + 4) x.chains.length))]
abbrev zFt (x : Mem) (i : Nat) : List SF := [.sl i x.t.ids.length (SlF zbb x.t.ids), .sl (i + 1) x.t.ls.length (SlF (zgR zbb) x.t.ls), .sl (i + 2) x.t.ps.length (SlF zfn x.t.ps), .sl (i + 3) x.secrets.length (SlF zfn x.secrets), .sl (i + 4) x.chains.length (SlF zju x.chains)]
abbrev zAy (kd id : Int) (lf ah : List Nat) (e : Epo) (a b c d g : SP) : SV := .tup [.agg [zfU kd, .one (.p a), .one (.p b), .one (.p c), zfU id, .key lf, .key ah, .one (.p d), .one (.p (.v (.int .u64 ((e.n : Nat) : Int)))), .key e.init, .key e.app, .key e.confirm, .key e.member, .key e.hash, .one (.p g)], .s (.p (.v (.int .i64 0)))]
theorem zh9 {kd id : Int} {lf ah : List Nat} {e : Epo} {a b c d g a' b' c' d' g' : SP} {h : Hn} (ha : a'.den h = a.den h) (hb : b'.den h = b.den h) (hc : c'.den h = c.den h) (hd : d'.den h = d.den h) (hg : g'.den h = g.den h) : (zAy kd id lf ah e a' b' c' d' g').den h = (zAy kd id lf ah e a b c d g).den h := by
 simp only [zAy, SV.den, zkp, SA.den, zaC, SC.den, SS.den, ha, hb, hc, hd, hg]
def zjr (gt : Nat → Nat) (jn : List Nat) : Epo := ⟨0, zer gt jn zzF [], zer gt jn zDG [], zer gt jn zh8 [], zer gt jn zmK [], zwR⟩
def zxf (gt : Nat → Nat) (kd : Int) (n : Nat) (seed : List Nat) : Mem := ⟨zbp kd n (zjn gt (zjq gt seed)), n, zjq gt seed, [], [], zjr gt (zFP gt n seed), [zgO gt (zAx gt n seed) n]⟩
section
variable {X : List Nat} {w : World} {gt : Nat → Nat} {seed : List Nat}
theorem zDo {kd : Int} {n : Nat} (hm : zh4 kd [(n : Int)] [] = true) (hp : zdI [] ≠ zdI (zjn gt (zjq gt seed))) (hn : n ≤ 1048576) (hk32 : seed.length = 32) (hkb : ∀ x ∈ seed, x < 256) (hX : ∀ k ∈ X, k < w.heap.size) (hG : St (zbH gt 2) w X) :
  Ct Tryz.prog 9 [.int .i64 kd, .int .i64 n, .agg (ca [.key seed])] X w (.tup [zFs (zxf gt kd n seed) 0, .s (.p (.v (.int .i64 0)))]) [.gone, .gone, .gone, .gone, .gone] (zFt (zxf gt kd n seed) 0) := by
 refine vFn (k0 := 0) (rs := [.cell 6 37, .tmp 7]) (svs := [zaD .i64 kd, zaD .i64 n, .a (.agg [.key seed])]) (R0 := [.c (zbH gt 2)]) (hnQ []) Tryz.ntmps9 Tryz.func9 rfl rfl rfl rfl rfl zan (by kernel_rfl) hX (fun r hr => by rcases List.mem_singleton.1 hr with rfl; exact hG) ?_
 obtain ⟨lf, hlf⟩ : ∃ lf, lf = zjq gt seed := ⟨_, rfl⟩
 conv => whnf
 refine zae (sv := .a (.agg [.key lf])) (rs := []) (Rs := []) rfl rfl rfl (by kernel_rfl) (fun h X w H => hlf ▸ zd5 (lab := zpX) rfl (by decide) hk32 hkb H.xk (H.fact 0 rfl)) rfl rfl rfl ?_
 conv => whnf
 obtain ⟨pt, hpt⟩ : ∃ pt, pt = zjn gt lf := ⟨_, rfl⟩
 have hl32 : lf.length = 32 := by rw [hlf]; exact zfe _ _ _ _
 have hlb : ∀ x ∈ lf, x < 256 := by rw [hlf]; exact zcR _ _ _ _
 refine zae (sv := .a (.agg [.key pt])) (rs := []) (Rs := []) rfl rfl rfl (by kernel_rfl) (fun h X w H => hpt ▸ zr8 hl32 hlb H.xk (H.fact 0 rfl)) rfl rfl rfl ?_
 conv => whnf
 obtain ⟨sm, hsm⟩ : ∃ sm, sm = zfW gt n pt := ⟨_, rfl⟩
 have hpt32 : pt.length = 32 := by rw [hpt]; exact zwz _
 have hptb : ∀ x ∈ pt, x < 256 := by rw [hpt]; exact zs4 _
 have hpp : zdI [] ≠ zdI pt := by rw [hpt, hlf]; exact hp
 refine zaH (zba [3, 4] rfl rfl (zaE (sv := .tup [.agg [.key sm], .s (.p (.v (.int .i64 0)))]) (rs := []) (Rs := []) (zab (sv := .tup [.agg [.key sm], .s (.p (.v (.int .i64 0)))]) (rs := []) (Rs := []) rfl rfl rfl (by kernel_rfl) rfl fun h X w H => ?_) rfl rfl)) ?_
 ·have h3 : St (AtC ⟨h.b 3, 0, none⟩ (zbb.ch (n : Int) ())) w _ := H.fact 1 rfl
  have h4 : St (AtC ⟨h.b 4, 0, none⟩ (zfn.ch pt ())) w _ := H.fact 0 rfl
  have := zwQ (gt := gt) hm hpp ⟨by omega, by omega⟩ hpt32 hptb H.xk (some ⟨h.b 3, 0, none⟩, 1) (none, 0) (some ⟨h.b 4, 0, none⟩, 1) (zjp h3 zeQ) zcr (zjp h4 zeQ) (H.fact 2 rfl)
  rw [← hsm] at this
  exact this
 conv => whnf
 obtain ⟨jn, hjn⟩ : ∃ jn, jn = zFP gt n seed := ⟨_, rfl⟩
 have hsm32 : sm.length = 32 := by rw [hsm]; exact zhX _ _
 have hsmb : ∀ x ∈ sm, x < 256 := by rw [hsm]; exact zgu _ _
 refine zaK 10 [2] (by kernel_rfl) ?_
 conv => whnf
 obtain ⟨jr, hjr⟩ : ∃ jr, jr = zer gt seed zpY [] := ⟨_, rfl⟩
 have hjr32 : jr.length = 32 := by rw [hjr]; exact zfe _ _ _ _
 have hjrb : ∀ x ∈ jr, x < 256 := by rw [hjr]; exact zcR _ _ _ _
 refine zaA (zab (sv := .a (.agg [.key jr])) (rs := []) (Rs := []) rfl rfl rfl (by kernel_rfl) rfl fun h X w H => hjr ▸ zd5 (lab := zpY) rfl (by decide) hk32 hkb H.xk (H.fact 2 rfl)) ?_
 conv => whnf
 have hjn2 : jn = zr7 gt jr 0 sm zwR := by rw [hjn, zFP, hjr, hsm, hpt, hlf]
 refine zaA (zab (sv := .tup [zAw gt jn 0 zwR, .s (.p (.v (.int .i64 0)))]) (rs := []) (Rs := []) rfl rfl rfl (by kernel_rfl) rfl fun h X w H => ?_) ?_
 ·have := zzG (gt := gt) (n := 0) (tree := sm) (hash := zwR) (by omega) hjr32 hjrb hsm32 hsmb rfl (by decide) H.xk (H.fact 2 rfl)
  rw [← hjn2] at this
  exact this
 conv => whnf
 obtain ⟨ap, hap⟩ : ∃ ap, ap = zer gt jn zDG [] := ⟨_, rfl⟩
 have hap32 : ap.length = 32 := by rw [hap]; exact zfe _ _ _ _
 have hapb : ∀ x ∈ ap, x < 256 := by rw [hap]; exact zcR _ _ _ _
 refine zaT (zba [6] rfl rfl (zaE (sv := .tup [.s (.p (.hd 7 1)), .s (.p (.v (.int .i64 0)))]) (rs := [zbA zju [zgO gt ap n] 46]) (Rs := [.q 7 (zc3 zju [zgO gt ap n])]) (zab (sv := .tup [.s (.p (.hd 0 1)), .s (.p (.v (.int .i64 0)))]) (rs := [zbA zju [zgO gt ap n] 46]) (Rs := [.q 0 (zc3 zju [zgO gt ap n])]) rfl rfl rfl (by kernel_rfl) rfl fun h X w H => ?_) rfl rfl)) ?_
 ·have h6 : St (AtC ⟨h.b 6, 0, none⟩ (zbb.ch (n : Int) ())) w _ := H.fact 0 rfl
  have := zs6 (gt := gt) (ids := [(n : Int)]) (fun x hx => by rcases List.mem_singleton.1 hx with rfl; exact ⟨by omega, by omega⟩) (by show 1 ≤ _; decide) hap32 hapb H.xk (zjp h6 zeQ) (H.fact 3 rfl)
  rw [hap] at this ⊢
  exact this
 conv => whnf
 have em : zxf gt kd n seed = ⟨zbp kd n pt, n, lf, [], [], zjr gt jn, [zgO gt ap n]⟩ := by rw [zxf, zAx, ← hlf, ← hpt, ← hjn, ← hap]
 rw [em]
 clear em hlf hpt hjn hap hsm hjr hjn2
 refine zpb 7 rfl (.head _) rfl ?_
 show RetOk X [] w _ 8 (zAy kd n lf [] (zjr gt jn) (.sl 3 0 1 1) (.v (.slice none 0 0)) (.sl 4 0 1 1) (.v (.slice none 0 0)) (.hd 7 1)) _ _
 refine zkU (sv' := zAy kd n lf [] (zjr gt jn) (.hd 8 1) (.v (.slice none 0 0)) (.sl 4 0 1 1) (.v (.slice none 0 0)) (.hd 7 1)) 1 (SlF zbb [(n : Int)]) (fun h => (some ⟨h.b 3, 0, none⟩, 1)) (fun h h' e => by rw [(e 3 rfl).1]) (fun h X w H => zjp (T := zbb) (x := (n : Int)) (μ := ()) (H.fact 4 rfl) zeQ) (fun h e => zh9 (by simp only [SP.den, e]) rfl rfl rfl rfl) rfl ?_
 refine zkU (sv' := zAy kd n lf [] (zjr gt jn) (.hd 8 1) (.hd 9 0) (.sl 4 0 1 1) (.v (.slice none 0 0)) (.hd 7 1)) 0 (SlF (zgR zbb) []) (fun h => (none, 0)) (fun h h' e => rfl) (fun h X w H => zcr) (fun h e => zh9 rfl (by simp only [SP.den, e]) rfl rfl rfl) rfl ?_
 refine zkU (sv' := zAy kd n lf [] (zjr gt jn) (.hd 8 1) (.hd 9 0) (.hd 10 1) (.v (.slice none 0 0)) (.hd 7 1)) 1 (SlF zfn [pt]) (fun h => (some ⟨h.b 4, 0, none⟩, 1)) (fun h h' e => by rw [(e 4 rfl).1]) (fun h X w H => zjp (T := zfn) (x := pt) (μ := ()) (H.fact 5 rfl) zeQ) (fun h e => zh9 rfl rfl (by simp only [SP.den, e]) rfl rfl) rfl ?_
 refine zkU (sv' := zAy kd n lf [] (zjr gt jn) (.hd 8 1) (.hd 9 0) (.hd 10 1) (.hd 11 0) (.hd 7 1)) 0 (SlF zfn []) (fun h => (none, 0)) (fun h h' e => rfl) (fun h X w H => zcr) (fun h e => zh9 rfl rfl rfl (by simp only [SP.den, e]) rfl) rfl ?_
 exact zaZ [(0, 8), (1, 9), (2, 10), (3, 11), (4, 7)] [3, 2, 1, 0, 4] (.inl rfl) trivial rfl ⟨.inl rfl, .inl rfl, .inl rfl, .inl rfl, .inl rfl, trivial⟩
end
end
section
open Go.RowKit
section
variable {X : List Nat} {w : World} {xs : List (Nat × List Nat)} {q : Qd}
theorem zpZ (hX : ∀ k ∈ X, k < w.heap.size) (hq : St (SlQ zef xs q) w X) : Ct Tryz.prog 106 [.slice q.1 xs.length q.2] X w (.a (.s (.fn (.func 150) [] [.at_ 1 0]))) [.gone, .blk [.one (.p (.hd 0 xs.length))] 44] [.sl 0 xs.length (SlF zef xs)] := by
 refine vFn (k0 := 1) (rs := [.tmp 2]) (svs := [.a (.s (.p (.hd 0 xs.length)))]) (R0 := [.sl 0 xs.length (SlF zef xs)]) (hnQ [q]) Tryz.ntmps106 Tryz.func106 rfl rfl rfl rfl rfl zan (by kernel_rfl) hX (fun r hr => by rcases List.mem_singleton.1 hr with rfl; exact hq) ?_
 conv => whnf
 exact zaZ [(0, 0), (1, 1)] [0] (.inl rfl) ⟨.inl rfl, trivial⟩ rfl ⟨.inl rfl, trivial⟩
def skV (x : Nat × List Nat) : Value := .agg (ca [.one (.int .u64 ((x.1 : Nat) : Int)), .key x.2])
def zFu (xs : List (Nat × List Nat)) (i : Nat) : Array Value := #[.int .i64 ((xs.length : Nat) - 1 - (i : Nat) : Int), match xs[xs.length - 1 - i]? with | some x => skV x | none => undef]
abbrev zoz (n : Nat) (yv : Value) (i : Nat) : LE := [(3, zaD .i64 (((n : Nat) : Int) - 1 - (i : Nat))), (0, .a (.s (.p (.v yv)))), (1, atS 0 0)]
abbrev zGH (xs : List (Nat × List Nat)) (b : Nat) : List SF := [.blk 0 [.one (.p (.hd 0 xs.length))], .sl 0 xs.length (SlF zef xs), .b 0 fun x _ => x = b]
def zFQ (b : Nat) (q : Qd) : Hn := ⟨fun _ => b, fun _ => q, fun _ _ => []⟩
def zGZ (n b : Nat) (yv : Value) (i : Nat) : List (Nat × Value) := [(3, .int .i64 (((n : Nat) : Int) - 1 - (i : Nat))), (0, yv), (1, .pointer (some ⟨b, 0, none⟩))]
theorem zoA : ∀ {l : List (Nat × Value)} {i : Nat} {v : Value}, zfm l i = some v → (i, v) ∈ l
 | [], i, v, e => by cases e
 | (d, u) :: l, i, v, e => by
  unfold zfm at e
  cases hb : Nat.beq d i with
  | true => rw [hb] at e; obtain rfl := Option.some.inj e; obtain rfl := Nat.eq_of_beq_eq_true hb; exact List.mem_cons_self ..
  | false => rw [hb] at e; exact List.mem_cons_of_mem _ (zoA e)
theorem Env.sel {a : Act} {N : Nat} {l l2 : List (Nat × Value)} (E : Env a N l) (h : ∀ p ∈ l2, zfm l p.1 = some p.2) : Env a N l2 := E.sub fun i v hv => h _ (zoA hv)
theorem zsa {A B : World} (h : Frm [] A B) : Kept A.heap.size A B := ⟨h.os, h.tape, h.output, h.size, fun k hk => h.block k hk (by simp)⟩
theorem zgP {b : Nat} {l0 : LE} {a : Act} {W : World} (E : Env a 19 (zcn (zFQ b q) l0)) (hwl : wfE (lt_ 1) l0 = true) (hb : St (AtC ⟨b, 0, none⟩ [.one (.slice q.1 xs.length q.2)]) W []) (hs : St (SlQ zef xs q) W []) : VSt 19 [] [] W 1 l0 [] (zGH xs b) (zFQ b q) a W := by
 refine ⟨E, ⟨fun _ h => (by cases h), fun _ h => (by cases h), List.nodup_nil, fun _ h => (by cases h), fun r hr => ?_⟩, Frm.refl _ _, fun _ h => (by cases h), hwl, rfl, rfl⟩
 rcases List.mem_cons.1 hr with rfl | hr
 ·exact hb
 rcases List.mem_cons.1 hr with rfl | hr
 ·exact hs
 ·rcases List.mem_singleton.1 hr with rfl
  exact fun _ _ => rfl
theorem zDp {N k : Nat} {l0 : LE} {h : Hn} {a : Act} {W : World} (E : Env a N (zcn h l0)) (hwl : wfE (lt_ k) l0 = true) : VSt N [] [] W k l0 [] [] h a W :=
 ⟨E, ⟨fun _ h => (by cases h), fun _ h => (by cases h), List.nodup_nil, fun _ h => (by cases h), fun _ h => (by cases h)⟩, Frm.refl _ _, fun _ h => (by cases h), hwl, rfl, rfl⟩
structure BackK (xs : List (Nat × List Nat)) (b : Nat) (yv : Value) (t3 : Int) (l : LE) (R : List SF) : Prop where
 t0 : zbM l 0 = some (.a (.s (.p (.v yv))))
 t1 : zbM l 1 = some (atS 0 0)
 t3 : zbM l 3 = some (zaD .i64 t3)
 fb : SF.b 0 (fun x _ => x = b) ∈ R
theorem BackK.env {b k : Nat} {yv : Value} {t3 : Int} {l : LE} {m : MB} {R : List SF} {G : List Nat} {w0 : World} {h : Hn} {a : Act} {W : World} (hk : BackK xs b yv t3 l R) (H : VSt 19 X G w0 k l m R h a W) : Env a 19 [(3, .int .i64 t3), (0, yv), (1, .pointer (some ⟨b, 0, none⟩))] := by
 have hb : h.b 0 = b := (H.sp.facts _ (zaQ.2 ⟨_, hk.fb, rfl⟩)).now
 refine H.env.sel fun p hp => ?_
 rcases List.mem_cons.1 hp with rfl | hp
 ·exact za1 h _ _ _ hk.t3
 rcases List.mem_cons.1 hp with rfl | hp
 ·exact za1 h _ _ _ hk.t0
 ·rcases List.mem_singleton.1 hp with rfl
  rw [za1 h _ _ _ hk.t1]
  show some (Value.pointer (some ⟨h.b 0, 0, none⟩)) = _
  rw [hb]
theorem zDq {n b : Nat} (hN : xs.length ≤ 9223372036854775807) {I : Nat → World → Prop} (hfacts : ∀ i A, I i A → St (AtC ⟨b, 0, none⟩ [.one (.slice q.1 xs.length q.2)]) A [] ∧ St (SlQ zef xs q) A []) (lo : Nat) (J : Nat → World → Prop) (Jx : World → Prop) (W : World) (hJI : ∀ i A, J i A → I i A) (hJ : ∀ i A B, Kept A.heap.size A B → J i A → J i B) (hJx : ∀ A B, Kept A.heap.size A B → Jx A → Jx B)
  (hY : ∀ i A, i < xs.length → J i A → YieldAt (zbG none) (n - 1) Tryz.prog lo (zFu xs i) A fun e B => (e = .returned (.bool true) ∧ J (i + 1) B) ∨ (e = .returned (.bool false) ∧ Jx B)) (h0 : J 0 W) :
  CallsIn (zbG none) n Tryz.prog 150 (#[.func (.yield lo) #[] #[]] ++ #[.pointer (some ⟨b, 0, none⟩)]) W fun e B => (∃ v, e = .returned v) ∧ (J xs.length B ∨ Jx B) := by
 obtain ⟨yv, hyv⟩ : ∃ yv, yv = Value.func (.yield lo) #[] #[] := ⟨_, rfl⟩
 rw [← hyv]
 refine zpH (N := 19) rfl Tryz.func150 rfl rfl fun a0 E0 => ?_
 have e150 : ∀ i : Nat, zGZ xs.length b yv i = zcn (zFQ b q) (zoz xs.length yv i) := fun i => rfl
 have hK0 : ∀ {i k : Nat} {t3 : Int} {lS : LE} {m : MB} {R : List SF} {h : Hn} {a : Act} {A B : World}, J i A → BackK xs b yv t3 lS R → VSt 19 [] [] A k lS m R h a B → Env a 19 [(3, .int .i64 t3), (0, yv), (1, .pointer (some ⟨b, 0, none⟩))] ∧ J i B := fun hj hk H => ⟨hk.env H, hJ _ _ _ (zsa H.frm) hj⟩
 obtain ⟨f1, f2⟩ := hfacts _ _ (hJI _ _ h0)
 have HV0 := zgP (l0 := [(0, .a (.s (.p (.v yv)))), (1, atS 0 0)]) E0 rfl f1 f2
 refine wpIn_seq (zfy (Kn := fun k l m R => BackK xs b yv (((xs.length : Nat) : Int) - 1 - (0 : Nat)) l R) (Kx := fun _ _ _ _ _ => False) (Kr := fun _ _ _ _ => False) zan _ rfl (by
  conv => whnf
  refine zc2 (by show _ ≤ ((xs.length : Nat) : Int) - 1; omega) (by show ((xs.length : Nat) : Int) - 1 ≤ _; omega) ?_
  conv => whnf
  exact ⟨rfl, rfl, by first | rfl | (rw [Int.natCast_zero, Int.sub_zero]; rfl), .tail _ (.tail _ (.head _))⟩) HV0 (fun k l m R h a W1 hk H => ?_) (fun _ _ _ _ _ _ _ _ hk _ => hk.elim) fun _ _ _ _ _ _ _ hk _ => hk.elim)
 obtain ⟨E1, j1⟩ := hK0 h0 hk H
 clear hk H HV0 f1 f2 E0 h0 a0
 refine wpIn_block ((wpIn_wide (n := n)).2 (zts (fun i a W => Env a 19 (zGZ xs.length b yv i) ∧ i ≤ xs.length ∧ J i W) (fun i => xs.length - i) 0 ⟨E1, Nat.zero_le _, j1⟩ fun i a A ⟨E, hi, hj⟩ => (wpIn_wide (n := n)).1 ?_))
 obtain ⟨f1, f2⟩ := hfacts _ _ (hJI _ _ hj)
 have HV := zgP (l0 := zoz xs.length yv i) E rfl f1 f2
 by_cases hlt : i < xs.length
 case neg =>
  obtain rfl : i = xs.length := by omega
  refine wpIn_seq (zfy (Kn := fun _ _ _ _ => False) (Kx := fun j k l m R => j = 0 ∧ BackK xs b yv (((xs.length : Nat) : Int) - 1 - (xs.length : Nat)) l R) (Kr := fun _ _ _ _ => False) zan _ rfl (by
   conv => whnf
   refine vIf (fun hc => ?_) fun hc => ?_
   ·have : (((xs.length : Nat) : Int) - 1 - (xs.length : Nat)) ≥ 0 := of_decide_eq_true hc
    omega
   ·conv => whnf
    exact ⟨rfl, rfl, rfl, rfl, .tail _ (.tail _ (.head _))⟩) HV (fun _ _ _ _ _ _ _ hk _ => hk.elim) (fun j k l m R h a W1 hk H => ?_) fun _ _ _ _ _ _ _ hk _ => hk.elim)
  obtain ⟨rfl, hk⟩ := hk
  obtain ⟨E2, j2⟩ := hK0 hj hk H
  refine (?_ : bodyPost Tryz.prog Tryz.f150 (fun e B => (∃ v, e = .returned v) ∧ (J xs.length B ∨ Jx B)) .normal _ _)
  exact ⟨E2.defers, _, results_none rfl _ _ _, ⟨_, rfl⟩, .inl j2⟩
 case pos =>
  obtain ⟨x, hx⟩ : ∃ x, xs[xs.length - 1 - i]? = some x := ⟨_, jP (by omega)⟩
  refine wpIn_seq (zfy (Kn := fun k l m R => BackK xs b yv (((xs.length : Nat) : Int) - 1 - (i : Nat)) l R) (Kx := fun _ _ _ _ _ => False) (Kr := fun _ _ _ _ => False) zan _ rfl (by
   conv => whnf
   refine vIf (fun hc => ?_) fun hc => ?_
   ·conv => whnf
    exact ⟨rfl, rfl, rfl, .tail _ (.tail _ (.head _))⟩
   ·have : ¬ (((xs.length : Nat) : Int) - 1 - (i : Nat)) ≥ 0 := of_decide_eq_false hc
    omega) HV (fun k l m R h a W1 hk H => ?_) (fun _ _ _ _ _ _ _ _ hk _ => hk.elim) fun _ _ _ _ _ _ _ hk _ => hk.elim)
  obtain ⟨E2, j2⟩ := hK0 hj hk H
  clear hk H HV f1 f2 E hj
  obtain ⟨f1, f2⟩ := hfacts _ _ (hJI _ _ j2)
  have HV := zgP (l0 := zoz xs.length yv i) E2 rfl f1 f2
  refine wpIn_seq (wpIn_block (wpIn_seq (wpIn_region_lit ?_)))
  refine zpI 6 (K := fun k l m R => BackK xs b yv (((xs.length : Nat) : Int) - 1 - (i : Nat)) l R ∧ zbM l 11 = some (.a (.s (.p (.v yv)))) ∧ zbM l 12 = some (zaD .i64 (((xs.length : Nat) : Int) - 1 - (i : Nat))) ∧ zbM l 16 = some (.a (.agg [.one (.p (.v (.int .u64 ((x.1 : Nat) : Int)))), .key x.2]))) zan HV rfl ?_ fun k l m R h a W1 hk H => ?_
  ·conv => whnf
   refine ⟨xs.length - 1 - i, ⟨by omega, by omega, by omega⟩, ?_⟩
   conv => whnf
   refine zb4 (zcb (T := zef) (x := x) (n := 33) (off := 0) (sub := [.one (.int .u64 ((x.1 : Nat) : Int)), .key x.2]) (sv := .a (.agg [.one (.p (.v (.int .u64 ((x.1 : Nat) : Int)))), .key x.2])) 1 hx (fun _ => rfl) rfl rfl rfl (by kernel_rfl) (fun _ => .inl ⟨rfl, rfl⟩)) rfl rfl ?_
   conv => whnf
   exact ⟨⟨rfl, rfl, rfl, .tail _ (.tail _ (.head _))⟩, rfl, rfl, rfl⟩
  obtain ⟨hk, k11, k12, k16⟩ := hk
  obtain ⟨E3, j3⟩ := hK0 j2 hk H
  have v11 := H.env.val 11 _ (za1 h _ _ _ k11)
  have v12 := H.env.val 12 _ (za1 h _ _ _ k12)
  have v16 := H.env.val 16 _ (za1 h _ _ _ k16)
  obtain ⟨fn, tmps, assign, body, hy, hR⟩ := hY i W1 hlt j3
  replace hy : (Instr.yield lo #[.int .i64 (((xs.length : Nat) : Int) - 1 - (i : Nat)), skV x]).run Tryz.prog W1 = .ok (.round lo fn tmps assign body) W1 := by
   unfold zFu at hy
   rw [hx] at hy
   exact hy
  clear hk H HV f1 f2 E2 j2 k11 k12 k16
  refine wpListIn_plain rfl fun K hK => zy6 rfl (v11.trans hyv) (args := #[.int .i64 (((xs.length : Nat) : Int) - 1 - (i : Nat)), skV x]) (by simp only [List.map_toArray, List.map_cons, List.map_nil]; rw [show a.eval (.tmp 12) = _ from v12, show a.eval (.tmp 16) = _ from v16]; rfl) hy hR fun e W2 h => ?_
  rcases h with ⟨rfl, j4⟩ | ⟨rfl, jx⟩
  ·refine ⟨_, rfl, hK _ _ ?_⟩
   have E4 := E3.put (d := 17) (v := .bool true) rfl
   obtain ⟨f1, f2⟩ := hfacts _ _ (hJI _ _ j4)
   have HV := zgP (l0 := (17, zbD true) :: zoz xs.length yv i) E4 rfl f1 f2
   refine zpI 1 (K := fun k l m R => BackK xs b yv (((xs.length : Nat) : Int) - 1 - (i : Nat)) l R ∧ zbM l 18 = some (zbD false)) zan HV rfl (by
     conv => whnf
     exact ⟨⟨rfl, rfl, rfl, .tail _ (.tail _ (.head _))⟩, rfl⟩) fun k l m R h a W3 hk H => ?_
   obtain ⟨E5, j5⟩ := hK0 j4 hk.1 H
   refine wpIn_cond_false (H.env.val 18 _ (za1 h _ _ _ hk.2)) (wpIn_skip ?_)
   obtain ⟨g1, g2⟩ := hfacts _ _ (hJI _ _ j5)
   refine zfy (Kn := fun k l m R => BackK xs b yv (((xs.length : Nat) : Int) - 1 - ((i + 1 : Nat) : Int)) l R) (Kx := fun _ _ _ _ _ => False) (Kr := fun _ _ _ _ => False) zan _ rfl (by
    conv => whnf
    refine zbi (z' := ((xs.length : Nat) : Int) - 1 - ((i + 1 : Nat) : Int)) (by omega) (by omega) (by omega) ?_
    conv => whnf
    exact ⟨rfl, rfl, rfl, .tail _ (.tail _ (.head _))⟩) (zgP (l0 := zoz xs.length yv i) E5 rfl g1 g2) (fun k l m R h a W4 hk H => ?_) (fun _ _ _ _ _ _ _ _ hk _ => hk.elim) fun _ _ _ _ _ _ _ hk _ => hk.elim
   obtain ⟨E6, j6⟩ := hK0 j5 hk H
   exact ⟨i + 1, ⟨E6, hlt, j6⟩, by omega⟩
  ·refine ⟨_, rfl, hK _ _ ?_⟩
   have E4 := E3.put (d := 17) (v := .bool false) rfl
   have HV : VSt 19 [] [] W2 1 [(17, zbD false)] [] [] (zFQ b q) _ W2 := zDp (E4.sel fun p hp => by rcases List.mem_singleton.1 hp with rfl; rfl) rfl
   refine zpI 1 (K := fun k l m R => zbM l 18 = some (zbD true)) zan HV rfl (by
     conv => whnf
     exact rfl) fun k l m R h a W3 hk H => ?_
   refine wpIn_cond_true (H.env.val 18 _ (za1 h _ _ _ hk)) (wpIn_ret ?_)
   exact ⟨H.env.defers, _, results_none rfl _ _ _, ⟨_, rfl⟩, .inr (hJx _ _ (zsa H.frm) jx)⟩
def zhw (g : Nat) : List (Nat × List Nat) → Bool
 | [] => true
 | x :: l => decide (x.1 < g) && zhw x.1 l
def zs7 (r : Rat) : Bool := decide (r.gen ≤ 4294967296) && (decide (r.left.length ≤ 1024) && zhw r.gen r.left.reverse)
def zc8 (r : Rat) : Int := if zs7 r then 0 else 1
structure CutK (r : Rat) (k : Nat) (l : LE) (m : MB) (R : List SF) : Prop where
 g1 : r.gen ≤ 4294967296
 g2 : r.left.length ≤ 1024
 t2 : zbM l 2 = some (atS 2 0)
 t3 : zbM l 3 = some (atS 3 0)
 t19 : zbM l 19 = some (.a (.s (.fn (.func 150) [] [.at_ 5 0])))
 m2 : zaB m 2 = some (.blk [.one (.p (.v (.int .i64 0)))] 38)
 m3 : zaB m 3 = some (.blk [.one (.p (.v (.int .u64 ((r.gen : Nat) : Int))))] 32)
 m5 : zaB m 5 = some (.blk [.one (.p (.hd 4 r.left.length))] 44)
 f4 : SF.sl 4 r.left.length (SlF zef r.left) ∈ R
theorem zmM {F : Fence} {n : Nat} {P : Program} {fn : Func} {Rr : Ending → World → Prop} {a : Act} {w : World} (h : bodyPost P fn Rr .ret a w) : bodyPostM F n P fn Rr .ret a w := by
 obtain ⟨hd, v, hr, hR⟩ := h
 show LeavesInM F n P fn a.tmps Rr a.defers .returning w
 rw [hd]
 exact ⟨v, hr, hR⟩
theorem zsb {G : List Nat} {W A B : World} (h : Frm G W A) (k : Kept W.heap.size A B) : Frm G W B := ⟨k.os.trans h.os, k.tape.trans h.tape, k.output.trans h.output, jU h.size k.size, fun i hi hn => (k.block i hi).trans (h.block i hi hn)⟩
abbrev mark (D : Nat) : Deferred := { target := .collected D, args := #[] }
def hn2 (b2 b3 : Nat) : Hn := ⟨fun i => if i = 2 then b2 else b3, fun _ => (none, 0), fun _ _ => []⟩
theorem zwS {N b2 b3 : Nat} {l0 : LE} {c2 c3 : List SC} {t2 t3 : Nat} {a : Act} {W : World} (E : Env a N (zcn (hn2 b2 b3) l0)) (hne : b2 ≠ b3) (h2 : (Res.blk b2 (ca (zaC (hn2 b2 b3) c2)) t2).holds W) (h3 : (Res.blk b3 (ca (zaC (hn2 b2 b3) c3)) t3).holds W) (hwl : wfE (lt_ 4) l0 = true) (hwm : wfM (lt_ 4) [(2, .blk c2 t2), (3, .blk c3 t3)] = true) :
  VSt N [] [b2, b3] W 4 l0 [(2, .blk c2 t2), (3, .blk c3 t3)] [.b 2 (fun y _ => y = b2), .b 3 (fun y _ => y = b3)] (hn2 b2 b3) a W := by
 refine ⟨E, ⟨fun _ h => (by cases h), fun q hq => ?_, ?_, fun _ _ h => (by cases h), fun f hf => ?_⟩, Frm.refl _ _, fun j hj => .inl hj, hwl, hwm, rfl⟩
 ·rcases List.mem_cons.1 hq with rfl | hq
  ·exact h2
  ·rcases List.mem_singleton.1 hq with rfl
   exact h3
 ·show [b2, b3].Nodup
  simp [hne]
 ·rcases List.mem_cons.1 hf with rfl | hf
  ·exact fun _ _ => rfl
  ·rcases List.mem_singleton.1 hf with rfl
   exact fun _ _ => rfl
theorem zAz {a : Act} {A : World} {b2 D : Nat} {z : Int} {r : Rat} (E : Env a 28 [(2, .pointer (some ⟨b2, 0, none⟩))]) (h2 : (Res.blk b2 (ca [.one (.int .i64 z)]) 38).holds A) (hD : A.heap[D]? = some (.deferred (some []))) (hF : Frm [] w A) (hDw : w.heap.size ≤ D) (hX : ∀ k ∈ X, k < w.heap.size) (hz : zc8 r = z) :
  bodyPostM (zbG none) 5 Tryz.prog Tryz.f83 (fun e w' => ∃ h : Hn, e = .returned ((.a (.s (.p (.v (.int .i64 (zc8 r))))) : SV).den h) ∧ Sep X [] w w' (zdM h 0 []) (zaX h [])) .ret (dfr [mark D] a) A := by
 have hne : D ≠ b2 := fun e => by
  have h2' : A.heap[b2]? = some (.cells (ca [.one (.int .i64 z)]) 38 (0, 0)) := h2
  rw [← e, hD] at h2'
  cases h2'
 refine ⟨by simp, .inl ⟨D, _, rfl, run_takeDeferred hD, ?_⟩⟩
 have h2w : (Res.blk b2 (ca [.one (.int .i64 z)]) 38).holds (A.putObj D (.deferred none)) := zbv h2 fun j hj => World.putObj_heap_other fun e => hne (by rcases List.mem_singleton.1 hj with rfl; first | exact e | exact e.symm)
 have HV : VSt 28 [] [b2] (A.putObj D (.deferred none)) 1 [(2, atS 0 0)] [(0, .blk [.one (.p (.v (.int .i64 z)))] 38)] [] ⟨fun _ => b2, fun _ => (none, 0), fun _ _ => []⟩ a (A.putObj D (.deferred none)) := by
  refine ⟨E, ⟨fun _ h => (by cases h), fun q hq => ?_, (by show [b2].Nodup; simp), fun _ _ h => (by cases h), fun _ h => (by cases h)⟩, Frm.refl _ _, fun j hj => .inl hj, rfl, rfl, rfl⟩
  rcases List.mem_singleton.1 hq with rfl
  exact h2w
 have := zgp (Rr := fun e w' => e = .returned (.int .i64 z)) (fn := Tryz.f83) (rs := [.cell 2 38]) zan rfl (by decide) (fun _ h => (by cases h)) HV (by
  conv => whnf
  exact ⟨fun h w _ _ _ _ _ => rfl⟩)
 obtain ⟨_, v, hr, hv⟩ := this
 obtain rfl := Ending.returned.inj hv
 have hF2 : Frm [] w (A.putObj D (.deferred none)) := hF.trans (Y := [D]) ⟨rfl, rfl, rfl, by simp [World.putObj], fun k hk hn => World.putObj_heap_other (by simp at hn; omega)⟩ fun k hk => by rcases List.mem_singleton.1 hk with rfl; exact .inr hDw
 exact ⟨_, hr, ⟨fun _ => 0, fun _ => (none, 0), fun _ _ => []⟩, by rw [hz]; rfl, hF2, hX, fun _ h => (by cases h), List.nodup_nil, fun _ h => (by cases h), fun _ h => (by cases h)⟩
theorem zoB {r : Rat} (hX : ∀ k ∈ X, k < w.heap.size) (hq : St (SlQ zef r.left q) w X) : Ct Tryz.prog 83 [.agg (ca (zju.ch r q))] X w (.a (.s (.p (.v (.int .i64 (zc8 r)))))) [] [] := by
 have hlen : r.left.length ≤ 9223372036854775807 := SlQ.big hq
 obtain ⟨Rr, hRr⟩ : ∃ Rr : Ending → World → Prop, Rr = fun e w' => ∃ h : Hn, e = .returned ((.a (.s (.p (.v (.int .i64 (zc8 r))))) : SV).den h) ∧ Sep X [] w w' (zdM h 0 []) (zaX h []) := ⟨_, rfl⟩
 show Calls _ _ _ _ _
 refine (callsIn_wide (n := 5)).1 ?_
 refine zok (N := 28) rfl Tryz.func83 rfl rfl fun a E => ?_
 have HV : VSt 28 X [] w 1 (ziG 0 [.a (.agg [.key r.chain, .one (.p (.v (.int .u64 ((r.gen : Nat) : Int)))), .one (.p (.hd 0 r.left.length))])]) [] [.sl 0 r.left.length (SlF zef r.left)] (hnQ [q]) a w := by
  refine ⟨E, ⟨hX, fun _ h => (by cases h), List.nodup_nil, fun _ h => (by cases h), fun f hf => ?_⟩, Frm.refl _ _, fun _ h => (by cases h), rfl, rfl, rfl⟩
  rcases List.mem_singleton.1 hf with rfl
  exact hq.mono (by simp [zaf, zac])
 rw [← hRr]
 refine zEW (Kn := fun k l m R => CutK r k l m R) (Kr := zxK tab [.cell 2 38] (RetOk X [] w Rr)) zan _ _ _ _ rfl rfl rfl rfl ?_ HV (fun k l m R h a W hk H => ?_) fun k l m R h a W hk H => zmM (zgp zan rfl (by decide) hX H hk)
 ·rw [hRr]
  have e0 : (((r.gen : Nat) : Int) > 4294967296) = ¬ r.gen ≤ 4294967296 := by
   apply propext
   omega
  conv => whnf
  cases hc : decide (((r.gen : Nat) : Int) > 4294967296) with
  | true =>
   have hn : ¬ r.gen ≤ 4294967296 := by simpa [e0] using hc
   have hz : zc8 r = 1 := by simp [zc8, zs7, hn]
   rw [hz]
   conv => whnf
   exact zav rfl
  | false =>
   have hg : r.gen ≤ 4294967296 := by simpa [e0] using hc
   conv => whnf
   refine vIf (fun hc => ?_) fun hc => ?_
   ·have h2 : ((r.left.length : Nat) : Int) > 1024 := of_decide_eq_true hc
    have hz : zc8 r = 1 := by simp [zc8, zs7, show ¬ r.left.length ≤ 1024 by omega]
    rw [hz]
    conv => whnf
    exact zav rfl
   have h2 : ¬ ((r.left.length : Nat) : Int) > 1024 := of_decide_eq_false hc
   conv => whnf
   refine zae (sv := .a (.s (.fn (.func 150) [] [.at_ 1 0]))) (rs := [.gone, .blk [.one (.p (.hd 0 r.left.length))] 44]) (Rs := [.sl 0 r.left.length (SlF zef r.left)]) rfl rfl rfl (by kernel_rfl) (fun h X w H => zpZ H.xk (H.fact 0 rfl)) rfl rfl rfl ?_
   conv => whnf
   exact ⟨hg, by omega, rfl, rfl, rfl, rfl, rfl, rfl, .head _⟩
 ·obtain ⟨b2, hb2⟩ : ∃ b, h.b 2 = b := ⟨_, rfl⟩
  obtain ⟨b3, hb3⟩ : ∃ b, h.b 3 = b := ⟨_, rfl⟩
  obtain ⟨b5, hb5⟩ : ∃ b, h.b 5 = b := ⟨_, rfl⟩
  obtain ⟨q4, hq4⟩ : ∃ q, h.r 4 = q := ⟨_, rfl⟩
  have e2 : a.eval (.tmp 2) = .pointer (some ⟨b2, 0, none⟩) := by rw [← hb2]; exact H.env.val 2 _ (za1 h _ _ _ hk.t2)
  have e3 : a.eval (.tmp 3) = .pointer (some ⟨b3, 0, none⟩) := by rw [← hb3]; exact H.env.val 3 _ (za1 h _ _ _ hk.t3)
  have e19 : a.eval (.tmp 19) = .func (.func 150) #[] #[.pointer (some ⟨b5, 0, none⟩)] := by rw [← hb5]; exact H.env.val 19 _ (za1 h _ _ _ hk.t19)
  have hp2 := zaN h m [] 2 _ hk.m2 (by simp)
  have hp3 := zaN h m [2] 3 _ hk.m3 (by simp)
  have hp5 := zaN h m [3, 2] 5 _ hk.m5 (by simp)
  have hp := hp2.trans ((hp3.trans (hp5.append_left _)).append_left _)
  have hkp := zar hp
  have hnod := (hkp.nodup_iff).1 H.sp.apart
  have hmem : ∀ x ∈ [b2, b3, b5], x ∈ zac (zaf h [] m) := fun x hx => hkp.mem_iff.2 (by
   show x ∈ h.b 2 :: h.b 3 :: h.b 5 :: _
   rw [hb2, hb3, hb5]
   simp at hx ⊢
   rcases hx with rfl | rfl | rfl <;> simp)
  have hnod2 : (b2 :: b3 :: b5 :: zac (zaf h [5, 3, 2] m)).Nodup := by
   rw [← hb2, ← hb3, ← hb5]
   exact hnod
  have n23 : b2 ≠ b3 := fun e => by simp [e] at hnod2
  have n25 : b2 ≠ b5 := fun e => by simp [e] at hnod2
  have n35 : b3 ≠ b5 := fun e => by simp [e] at hnod2
  have o2 : (Res.blk b2 (ca [.one (.int .i64 0)]) 38).holds W := by rw [← hb2]; exact zcp H.sp hk.m2
  have o3 : (Res.blk b3 (ca [.one (.int .u64 ((r.gen : Nat) : Int))]) 32).holds W := by rw [← hb3]; exact zcp H.sp hk.m3
  have o5 : (Res.blk b5 (ca [.one (.slice q4.1 r.left.length q4.2)]) 44).holds W := by rw [← hb5, ← hq4]; exact zcp H.sp hk.m5
  have hS : St (SlQ zef r.left q4) W (X ++ zac (zaf h [] m)) := by rw [← hq4]; exact H.sp.facts _ (zaQ.2 ⟨_, hk.f4, rfl⟩)
  have hw2 : ∀ x ∈ [b2, b3, b5], w.heap.size ≤ x ∧ x < W.heap.size := fun x hx => ⟨(H.mine x (hmem x hx)).resolve_left (by simp), H.sp.lt x (hmem x hx)⟩
  have hFw := H.frm
  have hds := H.env.defers
  have hEa := H.env
  obtain ⟨rv, hrv⟩ : ∃ rv, rv = r.left.reverse := ⟨_, rfl⟩
  have hrl : rv.length = r.left.length := by rw [hrv, List.length_reverse]
  have hbig : (W.heap.size : Nat) = W.heap.size := rfl
  refine wpIn_block (zv2 (N := r.left.length) (encs := zFu r.left) e19 (fun args w => zjK (by kernel_rfl)) (fun i => rfl)
   (fun i A => Frm [b2, b3] W A ∧ (Res.blk b2 (ca [.one (.int .i64 0)]) 38).holds A ∧ ∃ g : Nat, (Res.blk b3 (ca [.one (.int .u64 ((g : Nat) : Int))]) 32).holds A ∧ zhw r.gen rv = zhw g (rv.drop i))
   (fun c A => c = .ret ∧ Frm [b2, b3] W A ∧ (Res.blk b2 (ca [.one (.int .i64 1)]) 38).holds A ∧ zhw r.gen rv = false)
   (fun i A B hAB ⟨h1, h2, g, h3, h4⟩ => ⟨zsb h1 hAB, zbv h2 fun j hj => hAB.block j (by rcases List.mem_singleton.1 hj with rfl; exact (hw2 _ (by simp)).2), g, zbv h3 fun j hj => hAB.block j (by rcases List.mem_singleton.1 hj with rfl; exact (hw2 _ (by simp)).2), h4⟩)
   (fun c A B hAB ⟨h0, h1, h2, h3⟩ => ⟨h0, zsb h1 hAB, zbv h2 fun j hj => hAB.block j (by rcases List.mem_singleton.1 hj with rfl; exact (hw2 _ (by simp)).2), h3⟩)
   ⟨Frm.refl _ _, o2, r.gen, o3, by rw [jG]⟩ (zDq (q := q4) hlen fun i A ⟨h1, h2, h3⟩ => ⟨?_, ?_⟩) ?_ ?_ ?_)
  ·have o5A : (Res.blk b5 (ca [.one (.slice q4.1 r.left.length q4.2)]) 44).holds A := zbv o5 fun j hj => h1.block j (by rcases List.mem_singleton.1 hj with rfl; exact (hw2 _ (by simp)).2) (by rcases List.mem_singleton.1 hj with rfl; simp; exact ⟨fun e => n25 e.symm, fun e => n35 e.symm⟩)
   exact fun A' hA' => zeh (t := 44) (fr := (0, 0)) (zbv o5A fun j hj => hA' j (by rcases List.mem_singleton.1 hj with rfl; exact zf7 o5A _ (List.mem_singleton.2 rfl)) (by simp))
  ·exact hS.step h1.size (fun k hk hn => h1.block k hk fun hm => hn (List.mem_append_right _ (hmem k (by simp at hm ⊢; rcases hm with rfl | rfl <;> simp)))) (fun k hk => by cases hk)
  ·rintro i A hi ⟨h1, h2, g, h3, h4⟩ hsz
   obtain ⟨x, hx⟩ : ∃ x, r.left[r.left.length - 1 - i]? = some x := ⟨_, jP (by omega)⟩
   have hxr : rv[i]? = some x := by rw [hrv, List.getElem?_reverse hi]; exact hx
   have hdr : rv.drop i = x :: rv.drop (i + 1) := by
    obtain ⟨hlt, e⟩ := List.getElem?_eq_some_iff.1 hxr
    rw [List.drop_eq_getElem_cons hlt, e]
   have hgo : zhw r.gen rv = (decide (x.1 < g) && zhw x.1 (rv.drop (i + 1))) := by rw [h4, hdr]; rfl
   have hen : zFu r.left i = #[.int .i64 ((r.left.length : Nat) - 1 - (i : Nat) : Int), skV x] := by unfold zFu; rw [hx]
   rw [hen, show (#[20, 21] : Array Tmp).zip #[Value.int .i64 ((r.left.length : Nat) - 1 - (i : Nat) : Int), skV x] = #[(20, Value.int .i64 ((r.left.length : Nat) - 1 - (i : Nat) : Int)), (21, skV x)] from (by simp), ← Array.foldl_toList]
   have EA : Env { tmps := (a.tmps.setIfInBounds 20 (.int .i64 ((r.left.length : Nat) - 1 - (i : Nat) : Int))).setIfInBounds 21 (skV x), defers := [] } 28 (zcn (hn2 b2 b3) [(21, .a (.agg [.one (.p (.v (.int .u64 ((x.1 : Nat) : Int)))), .key x.2])), (2, atS 2 0), (3, atS 3 0)]) := by
    have e1 := (hEa.put (d := 20) (v := .int .i64 ((r.left.length : Nat) - 1 - (i : Nat) : Int)) rfl).put (d := 21) (v := skV x) rfl
    refine Env.sel (l := (21, skV x) :: (20, .int .i64 ((r.left.length : Nat) - 1 - (i : Nat) : Int)) :: zcn h l) ⟨rfl, e1.size, e1.val⟩ fun p hp => ?_
    rcases List.mem_cons.1 hp with rfl | hp
    ·rfl
    rcases List.mem_cons.1 hp with rfl | hp
    ·show zfm (zcn h l) 2 = _
     rw [za1 h _ _ _ hk.t2]
     show some (Value.pointer (some ⟨h.b 2, 0, none⟩)) = _
     rw [hb2]
     rfl
    ·rcases List.mem_singleton.1 hp with rfl
     show zfm (zcn h l) 3 = _
     rw [za1 h _ _ _ hk.t3]
     show some (Value.pointer (some ⟨h.b 3, 0, none⟩)) = _
     rw [hb3]
     rfl
   have hnL : ∀ y, W.heap.size ≤ y → y ∉ [b2, b3] := fun y hy hm => by
    rcases List.mem_cons.1 hm with rfl | hm
    ·have := (hw2 _ (by simp : y ∈ [y, b3, b5])).2; omega
    ·rcases List.mem_singleton.1 hm with rfl
     have := (hw2 _ (by simp : y ∈ [b2, y, b5])).2; omega
   have HV2 := zwS (c2 := [.one (.p (.v (.int .i64 0)))]) (c3 := [.one (.p (.v (.int .u64 ((g : Nat) : Int))))]) EA n23 h2 h3 rfl rfl
   refine zy7 [.b 2 (fun y _ => y = b2), .b 3 (fun y _ => y = b3)] (Kn := fun k l m R => x.1 < g ∧ zaB m 2 = some (.blk [.one (.p (.v (.int .i64 0)))] 38) ∧ zaB m 3 = some (.blk [.one (.p (.v (.int .u64 ((x.1 : Nat) : Int))))] 32) ∧ SF.b 2 (fun y _ => y = b2) ∈ R ∧ SF.b 3 (fun y _ => y = b3) ∈ R)
    (Kr := fun k l m R => ¬ x.1 < g ∧ zaB m 2 = some (.blk [.one (.p (.v (.int .i64 1)))] 38) ∧ SF.b 2 (fun y _ => y = b2) ∈ R) zan rfl rfl (hnL _ (by omega)) (by omega) (hnL _ (by omega)) (by omega) HV2 ?_ (fun h r hr w w' hw => ?_) (fun k l m R h B hk HB hF => ?_) fun k l m R h B hk HB hF => ?_
   ·conv => whnf
    refine ⟨fun y hy => hy, ?_⟩
    conv => whnf
    refine vIf (fun hc => ?_) fun hc => ?_
    ·have hc : ((x.1 : Nat) : Int) ≥ ((g : Nat) : Int) := of_decide_eq_true hc
     conv => whnf
     exact ⟨by omega, rfl, .head _⟩
    ·have hc : ¬ ((x.1 : Nat) : Int) ≥ ((g : Nat) : Int) := of_decide_eq_false hc
     conv => whnf
     exact ⟨by omega, rfl, rfl, .head _, .tail _ (.head _)⟩
   ·rcases List.mem_cons.1 hr with rfl | hr
    ·exact hw
    ·rcases List.mem_singleton.1 hr with rfl
     exact hw
   ·obtain ⟨k1, k2, k3, k4, k5⟩ := hk
    have f2 : h.b 2 = b2 := (HB.facts _ (zaQ.2 ⟨_, k4, rfl⟩)).now
    have f3 : h.b 3 = b3 := (HB.facts _ (zaQ.2 ⟨_, k5, rfl⟩)).now
    refine ⟨h1.trans hF fun y hy => ?_, by rw [← f2]; exact zcp HB k2, x.1, by rw [← f3]; exact zcp HB k3, by rw [hgo, decide_eq_true k1, Bool.true_and]⟩
    rcases List.mem_cons.1 hy with rfl | hy
    ·exact .inr (by omega)
    ·exact .inl hy
   ·obtain ⟨k1, k2, k4⟩ := hk
    have f2 : h.b 2 = b2 := (HB.facts _ (zaQ.2 ⟨_, k4, rfl⟩)).now
    refine ⟨rfl, h1.trans hF fun y hy => ?_, by rw [← f2]; exact zcp HB k2, by rw [hgo, decide_eq_false k1, Bool.false_and]⟩
    rcases List.mem_cons.1 hy with rfl | hy
    ·exact .inr (by omega)
    ·exact .inl hy
  ·rintro A ⟨h1, h2, g, h3, h4⟩ hD hDlt
   have hma : zhf a W.heap.size = dfr [mark W.heap.size] a := by unfold zhf dfr mark; rw [hds]
   rw [hma]
   have hz : zc8 r = 0 := by
    have : rv.drop r.left.length = [] := by rw [← hrl]; exact List.drop_length
    rw [this] at h4
    rw [hrv] at h4
    simp [zc8, zs7, hk.g1, hk.g2, h4, zhw]
   have EA : Env a 28 (zcn (hn2 b2 b3) [(2, atS 2 0)]) := hEa.sel fun p hp => by
    rcases List.mem_singleton.1 hp with rfl
    rw [za1 h _ _ _ hk.t2]
    show some (Value.pointer (some ⟨h.b 2, 0, none⟩)) = _
    rw [hb2]
    rfl
   have HV2 := zwS (c2 := [.one (.p (.v (.int .i64 0)))]) (c3 := [.one (.p (.v (.int .u64 ((g : Nat) : Int))))]) EA n23 h2 h3 rfl rfl
   refine zmv (ds := [mark W.heap.size]) (Kn := fun _ _ _ _ => False) (Kx := noX) (Kr := fun k l m R => zaB m 2 = some (.blk [.one (.p (.v (.int .i64 0)))] 38) ∧ zbM l 2 = some (atS 2 0) ∧ SF.b 2 (fun y _ => y = b2) ∈ R) zan _ rfl (by
    conv => whnf
    exact ⟨rfl, rfl, .head _⟩) HV2 (fun _ _ _ _ _ _ _ hk _ => hk.elim) (fun _ _ _ _ _ _ _ _ hk _ => hk.elim) fun k l m R h a B hk' HB => ?_
   obtain ⟨k1, k2, k4⟩ := hk'
   have f2 : h.b 2 = b2 := (HB.sp.facts _ (zaQ.2 ⟨_, k4, rfl⟩)).now
   rw [hRr]
   refine zAz (HB.env.sel fun p hp => ?_) (by have := zcp HB.sp k1; rw [f2] at this; exact this) ((HB.frm.block _ hDlt fun hm => ?_).trans hD) ((hFw.trans h1 fun y hy => ?_).trans HB.frm fun y hy => ?_) hFw.size hX hz
   ·rcases List.mem_singleton.1 hp with rfl
    rw [za1 h _ _ _ k2]
    show some (Value.pointer (some ⟨h.b 2, 0, none⟩)) = _
    rw [f2]
   ·rcases List.mem_cons.1 hm with e | hm
    ·have := (hw2 b2 (by simp)).2; omega
    ·have := (hw2 b3 (by simp)).2
     have := List.mem_singleton.1 hm
     omega
   ·exact .inr (hw2 y (by rcases List.mem_cons.1 hy with rfl | hy; simp; rcases List.mem_singleton.1 hy with rfl; simp)).1
   ·exact .inr (hw2 y (by rcases List.mem_cons.1 hy with rfl | hy; simp; rcases List.mem_singleton.1 hy with rfl; simp)).1
  ·rintro c A ⟨rfl, h1, h2, h3⟩ hD
   refine wpIn_ret ?_
   have hma : zhf a W.heap.size = dfr [mark W.heap.size] a := by unfold zhf dfr mark; rw [hds]
   rw [hma]
   have hz : zc8 r = 1 := by
    rw [hrv] at h3
    simp [zc8, zs7, h3]
   show bodyPostM (zbG none) 5 Tryz.prog Tryz.f83 Rr .ret (dfr [mark W.heap.size] a) A
   rw [hRr]
   refine zAz (hEa.sel fun p hp => ?_) h2 hD (hFw.trans h1 fun y hy => ?_) hFw.size hX hz
   ·rcases List.mem_singleton.1 hp with rfl
    rw [za1 h _ _ _ hk.t2]
    show some (Value.pointer (some ⟨h.b 2, 0, none⟩)) = _
    rw [hb2]
   ·exact .inr (hw2 y (by rcases List.mem_cons.1 hy with rfl | hy; simp; rcases List.mem_singleton.1 hy with rfl; simp)).1
end
end
section
open Go.RowKit
theorem zDr : Inj zju := fun x a b h => by
 simp only [zju, cl, Chunk.cells, List.cons_append, List.nil_append, List.append_cancel_left_eq, List.cons.injEq, Value.slice.injEq, and_true, true_and] at h
 exact Prod.ext h.1 h.2
section
variable {X : List Nat} {w : World}
theorem zDs (hX : ∀ k ∈ X, k < w.heap.size) (xs : List Rat) (q : Qd) (hq : St (SlQ zju xs q) w X) {g : FuncId} (hg : fnB Tryz.prog g = true) (p : Rat → Bool) (hp : ∀ y ∈ xs, ∀ (X : List Nat) (w : World) (μ : Qd), (∀ k ∈ X, k < w.heap.size) → St (SlQ zef y.left μ) w X → Ct Tryz.prog g [.agg (ca (zju.ch y μ))] X w (zbD (p y)) [] []) :
  Ct Tryz.prog 107 [.slice q.1 xs.length q.2, .func (.func g) #[] #[]] X w (zaD .i64 (zmt p xs)) [] [] := by
 have hbig := SlQ.big hq
 refine vFn (k0 := 1) (rs := [.tmp 4]) (svs := [.a (.s (.p (.hd 0 xs.length))), .a (.s (.p (.v (.func (.func g) #[] #[]))))]) (R0 := [.sl 0 xs.length (SlF zju xs)]) (hnQ [q]) Tryz.ntmps107 Tryz.func107 rfl rfl rfl rfl rfl zan (by kernel_rfl) hX (fun r hr => by rcases List.mem_singleton.1 hr with rfl; exact hq) ?_
 conv => whnf
 refine ⟨Nat, fun k l m R i => ⟨k, (8, zaD .i64 i) :: za2 [0, 1, 7] l, m, R⟩, fun i => i ≤ xs.length ∧ ∀ y ∈ xs.take i, p y = false, fun i => xs.length - i, ⟨0, [], [0], ⟨by omega, by simp⟩, za3⟩, fun i hφ => ?_⟩
 conv => whnf
 refine vIf (fun h => ?_) fun h => ?_
 ·have hi : i < xs.length := by simpa [Sl.len] using h
  obtain ⟨x, hx⟩ : ∃ x, xs[i]? = some x := ⟨_, jP hi⟩
  have hxi : xs[i] = x := (List.getElem?_eq_some_iff.1 hx).2
  conv => whnf
  refine ⟨i, ⟨rfl, hi, hi⟩, ?_⟩
  conv => whnf
  refine zfs (ziH zDr (n := 34) (off := 0) (sub := [.key x.chain, .one (.p (.v (.int .u64 ((x.gen : Nat) : Int)))), .one (.p (.hd 1 x.left.length))]) (Rs := [.sl 1 x.left.length (SlF zef x.left)]) 0 (fun μ => [μ]) 1 hx rfl rfl rfl (by kernel_rfl) (.inl ⟨rfl, rfl⟩) (fun μ h hh => by
   have e : h.r 1 = μ := hh 0 (by omega)
   subst e
   rfl) fun μ h w Y hh hn r hr => by
    have e : h.r 1 = μ := hh 0 (by omega)
    rcases List.mem_singleton.1 hr with rfl
    subst e
    exact hn) rfl rfl ?_
  conv => whnf
  refine zae (sv := zbD (p x)) (rs := []) (Rs := []) rfl rfl rfl hg (fun h X w H => hp x (List.mem_of_getElem? hx) _ _ (h.r 1) H.xk (H.fact 0 rfl)) rfl rfl rfl ?_
  conv => whnf
  refine vIf (fun he => ?_) fun he => ?_
  ·conv => whnf
   refine zav ?_
   rw [zjd hi hφ.2 (by rw [hxi]; exact he)]; rfl
  ·conv => whnf
   refine zc2 (by omega) (by omega) ?_
   conv => whnf
   exact ⟨i + 1, [], [1], ⟨⟨by omega, zgJ hi hφ.2 (by rw [hxi]; exact he)⟩, Nat.sub_lt_sub_left hi (Nat.lt_succ_self i)⟩, za3⟩
 ·have hi : i = xs.length := by
   have : ¬ i < xs.length := by simpa [Sl.len] using h
   omega
  conv => whnf
  refine zav ?_
  rw [zgI (by rw [← List.take_length (l := xs), ← hi]; exact hφ.2)]; rfl
theorem zwT (hX : ∀ k ∈ X, k < w.heap.size) (xs : List Rat) (q : Qd) (hq : St (SlQ zju xs q) w X) {g : FuncId} (hg : fnB Tryz.prog g = true) (p : Rat → Bool) (hp : ∀ y ∈ xs, ∀ (X : List Nat) (w : World) (μ : Qd), (∀ k ∈ X, k < w.heap.size) → St (SlQ zef y.left μ) w X → Ct Tryz.prog g [.agg (ca (zju.ch y μ))] X w (zbD (p y)) [] []) :
  Ct Tryz.prog 84 [.slice q.1 xs.length q.2, .func (.func g) #[] #[]] X w (zbD (xs.any p)) [] [] := by
 refine vFn (k0 := 1) (rs := [.tmp 4]) (svs := [.a (.s (.p (.hd 0 xs.length))), .a (.s (.p (.v (.func (.func g) #[] #[]))))]) (R0 := [.sl 0 xs.length (SlF zju xs)]) (hnQ [q]) Tryz.ntmps84 Tryz.func84 rfl rfl rfl rfl rfl zan (by kernel_rfl) hX (fun r hr => by rcases List.mem_singleton.1 hr with rfl; exact hq) ?_
 conv => whnf
 refine zae (sv := zaD .i64 (zmt p xs)) (rs := []) (Rs := []) rfl rfl rfl (by kernel_rfl) (fun h X w H => zDs H.xk xs _ (H.fact 0 rfl) hg p hp) rfl rfl rfl ?_
 have ha : (xs.any p) = decide (zmt p xs ≥ 0) := zmu.symm
 rw [ha]
 conv => whnf
 cases hb : decide (zmt p xs ≥ 0) with
 | true =>
  conv => whnf
  exact zav rfl
 | false =>
  conv => whnf
  exact zav rfl
theorem zwU (hX : ∀ k ∈ X, k < w.heap.size) (r : Rat) (q : Qd) (hq : St (SlQ zef r.left q) w X) : Ct Tryz.prog 82 [.agg (ca (zju.ch r q))] X w (zbD (!zs7 r)) [] [] := by
 refine vFn (k0 := 1) (rs := [.tmp 2]) (svs := [.a (.agg [.key r.chain, .one (.p (.v (.int .u64 ((r.gen : Nat) : Int)))), .one (.p (.hd 0 r.left.length))])]) (R0 := [.sl 0 r.left.length (SlF zef r.left)]) (hnQ [q]) Tryz.ntmps82 Tryz.func82 rfl rfl rfl rfl rfl zan (by kernel_rfl) hX (fun r hr => by rcases List.mem_singleton.1 hr with rfl; exact hq) ?_
 conv => whnf
 cases hr : zs7 r with
 | true =>
  have e : zc8 r = 0 := by simp [zc8, hr]
  refine zae (sv := zaD .i64 0) (rs := []) (Rs := []) rfl rfl rfl (by kernel_rfl) (fun h X w H => e ▸ zoB H.xk (H.fact 0 rfl)) rfl rfl rfl ?_
  conv => whnf
  exact zav rfl
 | false =>
  have e : zc8 r = 1 := by simp [zc8, hr]
  refine zae (sv := zaD .i64 1) (rs := []) (Rs := []) rfl rfl rfl (by kernel_rfl) (fun h X w H => e ▸ zoB H.xk (H.fact 0 rfl)) rfl rfl rfl ?_
  conv => whnf
  exact zav rfl
structure Tre.good (t : Tre) : Prop where
 fits : t.fits
 cnt : t.ok = true → (zbu t.two t.ls t.ids.length).length ≤ 1000000
 up : t.ok = true → ∀ (j : Nat) (x : Nd), (zbu t.two t.ls t.ids.length)[j]? = some x → x.up < 0 ∨ (j < x.up.toNat ∧ x.up.toNat < (zbu t.two t.ls t.ids.length).length)
def Mem.path (x : Mem) : List Int × List Nd × Int := zeL x.t.two x.t.kd x.t.ids x.t.ls x.id
def Mem.ok (x : Mem) : Bool := x.t.ok && (decide (x.e.n ≤ 1099511627776) && (decide (x.chains.length = x.t.ids.length) && (x.path.2.2 == 0 && (decide (x.path.1.length = x.secrets.length + 1) && !(x.chains.any fun r => !zs7 r)))))
def Mem.way (x : Mem) : List Int := if x.ok then x.path.1 else []
def Mem.err (x : Mem) : Int := if x.ok then 0 else 1
def Mem.val (x : Mem) (q1 q2 q3 q4 q5 : Qd) : Value := (zFs x 0).den (hnQ [q1, q2, q3, q4, q5])
structure Mem.at_ (x : Mem) (q1 q2 q3 q4 q5 : Qd) (w : World) (X : List Nat) : Prop where
 ids : St (SlQ zbb x.t.ids q1) w X
 ls : St (SlQ (zgR zbb) x.t.ls q2) w X
 ps : St (SlQ zfn x.t.ps q3) w X
 secrets : St (SlQ zfn x.secrets q4) w X
 chains : St (SlQ zju x.chains q5) w X
theorem Mem.at_.all {x : Mem} {q1 q2 q3 q4 q5 : Qd} (h : x.at_ q1 q2 q3 q4 q5 w X) : ∀ r ∈ zaX (hnQ [q1, q2, q3, q4, q5]) (zFt x 0), St r w X := fun r hr => by
 rcases List.mem_cons.1 hr with rfl | hr
 ·exact h.ids
 rcases List.mem_cons.1 hr with rfl | hr
 ·exact h.ls
 rcases List.mem_cons.1 hr with rfl | hr
 ·exact h.ps
 rcases List.mem_cons.1 hr with rfl | hr
 ·exact h.secrets
 ·rcases List.mem_singleton.1 hr with rfl
  exact h.chains
theorem zwV {t : Tre} : t.nodes.2 = if t.ok then 0 else 1 := by unfold Tre.nodes; cases t.ok <;> rfl
theorem zFv {x : Mem} {q1 q2 q3 q4 q5 : Qd} (hX : ∀ k ∈ X, k < w.heap.size) (hg : x.t.good) (hs : x.secrets.length ≤ 1000000) (hm : x.at_ q1 q2 q3 q4 q5 w X) :
  Ct Tryz.prog 48 [x.val q1 q2 q3 q4 q5] X w (.tup [.s (.p (.hd 0 x.way.length)), .s (.p (.v (.int .i64 x.err)))]) [.gone] [.sl 0 x.way.length (SlF zbb x.way)] := by
 have bad : x.ok = false → x.way = [] ∧ x.err = 1 := fun h => ⟨by simp [Mem.way, h], by simp [Mem.err, h]⟩
 have hbs := SlQ.big hm.secrets
 refine vFn (k0 := 5) (rs := [.tmp 2, .tmp 3]) (svs := [.a (zFs x 0)]) (R0 := zFt x 0) (hnQ [q1, q2, q3, q4, q5]) Tryz.ntmps48 Tryz.func48 rfl rfl rfl rfl rfl zan (by kernel_rfl) hX hm.all ?_
 conv => whnf
 cases h1 : x.t.ok with
 | false =>
  have e1 : x.t.nodes.2 = 1 := by rw [zwV, h1]; rfl
  obtain ⟨b1, b2⟩ := bad (by simp [Mem.ok, h1])
  rw [b1, b2]
  refine zae (sv := zaD .i64 1) (rs := []) (Rs := []) rfl rfl rfl (by kernel_rfl) (fun h X w H => e1 ▸ zj5 H.xk x.t hg.fits (h.r 0) (h.r 1) (h.r 2) (H.fact 0 rfl) (H.fact 1 rfl) (H.fact 2 rfl)) rfl rfl rfl ?_
  conv => whnf
  first | exact zaZ [(0, 6)] [0] (.inr ⟨rfl, rfl, trivial⟩) trivial rfl ⟨.inr (zbj rfl), trivial⟩ | exact zaZ [(0, 9)] [0] (.inr ⟨rfl, rfl, trivial⟩) trivial rfl ⟨.inr (zbj rfl), trivial⟩
 | true =>
  have e1 : x.t.nodes.2 = 0 := by rw [zwV, h1]; rfl
  refine zae (sv := zaD .i64 0) (rs := []) (Rs := []) rfl rfl rfl (by kernel_rfl) (fun h X w H => e1 ▸ zj5 H.xk x.t hg.fits (h.r 0) (h.r 1) (h.r 2) (H.fact 0 rfl) (H.fact 1 rfl) (H.fact 2 rfl)) rfl rfl rfl ?_
  conv => whnf
  by_cases h2 : x.e.n ≤ 1099511627776
  case neg =>
   obtain ⟨b1, b2⟩ := bad (by simp [Mem.ok, h1, h2])
   rw [b1, b2]
   refine zae (sv := zaD .i64 1) (rs := []) (Rs := []) rfl rfl rfl (by kernel_rfl) (fun h X w H => by
    have := zjj (n := x.e.n) (a := x.e.init) (b := x.e.app) (c := x.e.confirm) (d := x.e.member) (e := x.e.hash) H.xk
    rw [if_neg h2] at this
    exact this) rfl rfl rfl ?_
   conv => whnf
   first | exact zaZ [(0, 6)] [0] (.inr ⟨rfl, rfl, trivial⟩) trivial rfl ⟨.inr (zbj rfl), trivial⟩ | exact zaZ [(0, 9)] [0] (.inr ⟨rfl, rfl, trivial⟩) trivial rfl ⟨.inr (zbj rfl), trivial⟩
  refine zae (sv := zaD .i64 0) (rs := []) (Rs := []) rfl rfl rfl (by kernel_rfl) (fun h X w H => by
   have := zjj (n := x.e.n) (a := x.e.init) (b := x.e.app) (c := x.e.confirm) (d := x.e.member) (e := x.e.hash) H.xk
   rw [if_pos h2] at this
   exact this) rfl rfl rfl ?_
  conv => whnf
  refine vIf (fun hc => ?_) fun hc => ?_
  ·have h3 : ¬ x.chains.length = x.t.ids.length := by
    have : (((x.chains.length : Nat) : Int) != ((x.t.ids.length : Nat) : Int)) = true := hc
    have := bne_iff_ne.1 this
    omega
   obtain ⟨b1, b2⟩ := bad (by simp [Mem.ok, h3])
   rw [b1, b2]
   conv => whnf
   first | exact zaZ [(0, 6)] [0] (.inr ⟨rfl, rfl, trivial⟩) trivial rfl ⟨.inr (zbj rfl), trivial⟩ | exact zaZ [(0, 9)] [0] (.inr ⟨rfl, rfl, trivial⟩) trivial rfl ⟨.inr (zbj rfl), trivial⟩
  have h3 : x.chains.length = x.t.ids.length := by
   have : (((x.chains.length : Nat) : Int) != ((x.t.ids.length : Nat) : Int)) = false := hc
   have := bne_eq_false_iff_eq.1 this
   omega
  conv => whnf
  obtain ⟨⟨wy, ns, er⟩, hp⟩ : ∃ r, x.path = r := ⟨_, rfl⟩
  refine zae (sv := .tup [.s (.p (.hd 0 wy.length)), .s (.p (.v (.int .i64 er)))]) (rs := [.gone]) (Rs := [.sl 0 wy.length (SlF zbb wy)]) rfl rfl rfl (by kernel_rfl) (fun h X w H => by
   have := zCD H.xk x.t.two x.t.kd rfl x.t.ids x.t.ls x.id (h.r 0) (h.r 1) (H.fact 0 rfl) (H.fact 1 rfl) hg.fits.len hg.fits.lv hg.fits.ok (hg.cnt h1) (hg.up h1)
   rw [show zeL x.t.two x.t.kd x.t.ids x.t.ls x.id = (wy, ns, er) from hp] at this
   exact this) rfl rfl rfl ?_
  conv => whnf
  cases h4 : (er != 0) with
  | true =>
   have h4' : ¬ er = 0 := bne_iff_ne.1 h4
   obtain ⟨b1, b2⟩ := bad (by simp [Mem.ok, hp, h4'])
   rw [b1, b2]
   conv => whnf
   first | exact zaZ [(0, 6)] [0] (.inr ⟨rfl, rfl, trivial⟩) trivial rfl ⟨.inr (zbj rfl), trivial⟩ | exact zaZ [(0, 9)] [0] (.inr ⟨rfl, rfl, trivial⟩) trivial rfl ⟨.inr (zbj rfl), trivial⟩
  | false =>
   obtain rfl : er = 0 := bne_eq_false_iff_eq.1 h4
   conv => whnf
   refine zc2 (by omega) (by show ((x.secrets.length : Nat) : Int) + 1 ≤ _; omega) ?_
   conv => whnf
   refine vIf (fun hc => ?_) fun hc => ?_
   ·have h5 : ¬ wy.length = x.secrets.length + 1 := by
     have : (((wy.length : Nat) : Int) != ((x.secrets.length : Nat) : Int) + 1) = true := hc
     have := bne_iff_ne.1 this
     omega
    obtain ⟨b1, b2⟩ := bad (by simp [Mem.ok, hp, h5])
    rw [b1, b2]
    conv => whnf
    first | exact zaZ [(0, 6)] [0] (.inr ⟨rfl, rfl, trivial⟩) trivial rfl ⟨.inr (zbj rfl), trivial⟩ | exact zaZ [(0, 9)] [0] (.inr ⟨rfl, rfl, trivial⟩) trivial rfl ⟨.inr (zbj rfl), trivial⟩
   have h5 : wy.length = x.secrets.length + 1 := by
    have : (((wy.length : Nat) : Int) != ((x.secrets.length : Nat) : Int) + 1) = false := hc
    have := bne_eq_false_iff_eq.1 this
    omega
   conv => whnf
   cases h6 : x.chains.any fun r => !zs7 r with
   | true =>
    obtain ⟨b1, b2⟩ := bad (by simp [Mem.ok, h6])
    rw [b1, b2]
    refine zae (sv := zbD true) (rs := []) (Rs := []) rfl rfl rfl (by kernel_rfl) (fun h X w H => h6 ▸ zwT H.xk x.chains _ (H.fact 5 rfl) (by kernel_rfl) (fun r => !zs7 r) fun y hy X w μ hX hS => zwU hX y μ hS) rfl rfl rfl ?_
    conv => whnf
    first | exact zaZ [(0, 6)] [0] (.inr ⟨rfl, rfl, trivial⟩) trivial rfl ⟨.inr (zbj rfl), trivial⟩ | exact zaZ [(0, 9)] [0] (.inr ⟨rfl, rfl, trivial⟩) trivial rfl ⟨.inr (zbj rfl), trivial⟩
   | false =>
    have hok : x.ok = true := by simp only [Mem.ok, h1, h2, h3, hp, h5, h6]; rfl
    have hw : x.way = wy := by rw [Mem.way, if_pos hok, hp]
    have he : x.err = 0 := by rw [Mem.err, if_pos hok]
    rw [hw, he]
    refine zae (sv := zbD false) (rs := []) (Rs := []) rfl rfl rfl (by kernel_rfl) (fun h X w H => h6 ▸ zwT H.xk x.chains _ (H.fact 5 rfl) (by kernel_rfl) (fun r => !zs7 r) fun y hy X w μ hX hS => zwU hX y μ hS) rfl rfl rfl ?_
    conv => whnf
    exact zaZ [(0, 6)] [0] (.inl rfl) trivial rfl ⟨.inl rfl, trivial⟩
theorem zwW {x : Mem} {q1 q2 q3 q4 q5 : Qd} (hX : ∀ k ∈ X, k < w.heap.size) (hg : x.t.good) (hs : x.secrets.length ≤ 1000000) (hm : x.at_ q1 q2 q3 q4 q5 w X) :
  Ct Tryz.prog 26 [x.val q1 q2 q3 q4 q5] X w (zaD .i64 x.err) [] [] := by
 refine vFn (k0 := 5) (rs := [.tmp 2]) (svs := [.a (zFs x 0)]) (R0 := zFt x 0) (hnQ [q1, q2, q3, q4, q5]) Tryz.ntmps26 Tryz.func26 rfl rfl rfl rfl rfl zan (by kernel_rfl) hX hm.all ?_
 conv => whnf
 refine zae (sv := .tup [.s (.p (.hd 0 x.way.length)), .s (.p (.v (.int .i64 x.err)))]) (rs := [.gone]) (Rs := [.sl 0 x.way.length (SlF zbb x.way)]) rfl rfl rfl (by kernel_rfl) (fun h X w H => zFv (q1 := h.r 0) (q2 := h.r 1) (q3 := h.r 2) (q4 := h.r 3) (q5 := h.r 4) H.xk hg hs ⟨H.fact 0 rfl, H.fact 1 rfl, H.fact 2 rfl, H.fact 3 rfl, H.fact 4 rfl⟩) rfl rfl rfl ?_
 conv => whnf
 exact zav rfl
end
end
section
open Go.RowKit
theorem zwX {v : Nat} (hv : v < pN) (h : ∀ i, i < 32 → zaR v i = 0) : v = 0 := by
 have cg : ∀ {u v : Nat → Nat}, (∀ i, i < 32 → u i = v i) → ∀ i, i < 32 → zfR u i = zfR v i := fun {u v} h i hi => by
  unfold zfR
  split
  ·rw [h 31 (by decide)]
  ·exact h i hi
 have h1 := zoe v hv
 have h2 : zj1 (zaR v) = zj1 (zaR 0) := zsR (cg fun i hi => by rw [h i hi, zsQ])
 rw [h1, zoe 0 zcP] at h2
 exact h2
theorem zkb (b : List Nat) : zdI [] ≠ zdI (zmI b) := by
 unfold zmI
 have hb := zC1 (fun i => b.getD i 0)
 have hl := zCs (fun i => b.getD i 0) 9
 revert hb hl
 generalize zdx (fun i => b.getD i 0) 9 = v
 intro hb hl h
 have h1 := zoX.1 h
 refine hb (zwX hl fun i hi => ?_)
 have h2 := h1 i hi
 rw [zcZ _ i hi] at h2
 exact h2.symm
theorem zDt {kd : Int} {n : Nat} (hk : kd = 1 ∨ kd = 2) (hn : n ≤ 1048576) : zh4 kd [(n : Int)] [] = true := by
 have h1 : zAr (n : Int) = false := by unfold zAr; simp; omega
 have h2 : zd3 [(n : Int)] [] = true := by
  unfold zd3
  rw [show ([(n : Int)].any zAr) = false by simp [h1], show zj3 [(n : Int)] = true by rfl, show zeK [(n : Int)].length [] = true by rfl]
  rfl
 unfold zh4
 rw [h2]
 rcases hk with rfl | rfl <;> rfl
theorem zDu {kd id : Int} {p : List Nat} (hm : zh4 kd [id] [] = true) (hp : zdI [] ≠ zdI p) : (zbp kd id p).ok = true := by
 have h := zr9 hm hp
 cases ho : (zbp kd id p).ok with
 | true => rfl
 | false =>
  unfold Tre.nodes at h
  rw [ho, if_neg (by simp)] at h
  simp at h
theorem zwY (kd id : Int) (p : List Nat) : (zbp kd id p).good := by
 have e : zbu (zbp kd id p).two (zbp kd id p).ls (zbp kd id p).ids.length = [zjo] := rfl
 refine ⟨zoy kd id p, fun _ => ?_, fun _ => ?_⟩
 ·rw [e]; decide
 ·rw [e]
  intro j x h
  match j with
  | 0 => obtain rfl := Option.some.inj h; exact .inl (by decide)
  | j + 1 => simp at h
theorem zwZ {gt : Nat → Nat} {kd : Int} {n : Nat} {seed : List Nat} (hm : zh4 kd [(n : Int)] [] = true) : (zxf gt kd n seed).path = ([0], [zjo], 0) := by
 show zeL (kd == 1) kd [(n : Int)] [] n = _
 unfold zeL
 rw [if_pos hm, if_pos (by simp)]
 have e : zbu (kd == 1) [] [(n : Int)].length = [zjo] := rfl
 have e2 : zep [(n : Int)] n = 0 := by unfold zep; simp
 rw [e, e2]
 rfl
theorem zDv {gt : Nat → Nat} {kd : Int} {n : Nat} {seed : List Nat} (hm : zh4 kd [(n : Int)] [] = true) : (zxf gt kd n seed).ok = true := by
 have h1 : (zxf gt kd n seed).t.ok = true := zDu hm (zkb _)
 unfold Mem.ok
 rw [h1, zwZ hm]
 rfl
def zs8 : List Nat := 1 :: List.replicate 31 0
section
variable {X : List Nat} {w : World} {gt : Nat → Nat}
theorem zw0 (hX : ∀ k ∈ X, k < w.heap.size) (hG : St (zbH gt 2) w X) : Ct Tryz.prog 8 [] X w (zbD true) [] [] := by
 have hm := zDt (kd := 1) (n := 5) (.inl rfl) (by decide)
 have hok := zDv (gt := gt) (seed := zs8) hm
 have hgd : (zxf gt 1 5 zs8).t.good := zwY _ _ _
 obtain ⟨pt, lf, ep, rt, hx⟩ : ∃ pt lf ep rt, zxf gt 1 5 zs8 = ⟨zbp 1 5 pt, 5, lf, [], [], ep, [rt]⟩ := ⟨_, _, _, _, rfl⟩
 have her : (zxf gt 1 5 zs8).err = 0 := by rw [Mem.err, if_pos hok]
 rw [hx] at her hgd
 refine vFn (k0 := 0) (rs := [.tmp 0]) (svs := []) (R0 := [.c (zbH gt 2)]) (hnQ []) Tryz.ntmps8 Tryz.func8 rfl rfl rfl rfl rfl zan (by kernel_rfl) hX (fun r hr => by rcases List.mem_singleton.1 hr with rfl; exact hG) ?_
 conv => whnf
 refine zD7 (.a (.agg [.key zs8])) (fun h w => zgf (n := 32) (z := [.one (bv 0), .row 31 fun _ => bv 0]) [.key zs8] rfl (by kernel_rfl) (by kernel_rfl) ⟨_, [.one _], 0, _, rfl, rfl, rfl, rfl, rfl⟩ (by kernel_rfl)) rfl rfl ?_
 conv => whnf
 refine zae (sv := .tup [zFs ⟨zbp 1 5 pt, 5, lf, [], [], ep, [rt]⟩ 0, .s (.p (.v (.int .i64 0)))]) (rs := [.gone, .gone, .gone, .gone, .gone]) (Rs := zFt ⟨zbp 1 5 pt, 5, lf, [], [], ep, [rt]⟩ 0) rfl rfl rfl (by kernel_rfl) (fun h X w H => hx ▸ zDo (kd := 1) (n := 5) hm (zkb _) (by decide) rfl (by decide) H.xk (H.fact 0 rfl)) rfl rfl rfl ?_
 conv => whnf
 refine zae (sv := zaD .i64 0) (rs := []) (Rs := []) rfl rfl rfl (by kernel_rfl) (fun h X w H => her ▸ zwW (x := ⟨zbp 1 5 pt, 5, lf, [], [], ep, [rt]⟩) (q1 := h.r 0) (q2 := h.r 1) (q3 := h.r 2) (q4 := h.r 3) (q5 := h.r 4) H.xk hgd (Nat.zero_le _) ⟨H.fact 0 rfl, H.fact 1 rfl, H.fact 2 rfl, H.fact 3 rfl, H.fact 4 rfl⟩) rfl rfl rfl ?_
 conv => whnf
 exact zav rfl
end
end
section
open Go.RowKit
section
variable {X : List Nat} {w : World} {kk : List Nat} {gt : Nat → Nat}
theorem zzH (hk32 : kk.length = 32) (hkb : ∀ x ∈ kk, x < 256) (hX : ∀ k ∈ X, k < w.heap.size) (hG : St (zbH gt 0) w X) : Ct Tryz.prog 43 [.agg (ca [.key kk])] X w (.tup [.agg [.key (zwA gt kk)], .agg [.key (zmI (zwA gt kk))]]) [] [] := by
 refine vFn (k0 := 0) (rs := [.cell 2 23, .cell 3 23]) (svs := [.a (.agg [.key kk])]) (R0 := [.c (zbH gt 0)]) (hnQ []) Tryz.ntmps43 Tryz.func43 rfl rfl rfl rfl rfl zan (by kernel_rfl) hX (fun r hr => by rcases List.mem_singleton.1 hr with rfl; exact hG) ?_
 conv => whnf
 refine zae rfl rfl rfl (by kernel_rfl) (fun h X w H => zj9 (lab := zDi) (ts := []) (q := (none, 0)) rfl (by decide) hk32 hkb zci H.xk zcr (H.fact 0 rfl)) rfl rfl rfl ?_
 conv => whnf
 refine zaK 3 [] (by kernel_rfl) ?_
 conv => whnf
 refine zaA (zab (rs := []) (Rs := []) rfl rfl rfl (by kernel_rfl) rfl fun h X w H => zzE H.xk (zcR _ _ _ _)) ?_
 conv => whnf
 exact zav rfl
theorem zhj {s : ByteArray} {lab : List Nat} (hs : s.data.toList.map UInt8.toNat = lab) (hlab : lab.length ≤ 100) (hk32 : kk.length = 32) (hkb : ∀ x ∈ kk, x < 256) (hX : ∀ k ∈ X, k < w.heap.size) (hG : St (zbH gt 0) w X) : Ct Tryz.prog 34 [.agg (ca [.key kk]), .string s] X w (.a (.agg [.key (zer gt kk lab [])])) [] [] := by
 refine vFn (k0 := 0) (rs := [.cell 4 23]) (svs := [.a (.agg [.key kk]), zgW (.string s)]) (R0 := [.c (zbH gt 0)]) (hnQ []) Tryz.ntmps34 Tryz.func34 rfl rfl rfl rfl rfl zan (by kernel_rfl) hX (fun r hr => by rcases List.mem_singleton.1 hr with rfl; exact hG) ?_
 conv => whnf
 refine zae rfl rfl rfl (by kernel_rfl) (fun h X w H => zj9 (ts := []) (q := (none, 0)) hs hlab hk32 hkb zci H.xk zcr (H.fact 0 rfl)) rfl rfl rfl ?_
 conv => whnf
 exact zav rfl
theorem zw1 (hk32 : kk.length = 32) (hkb : ∀ x ∈ kk, x < 256) (hX : ∀ k ∈ X, k < w.heap.size) (hG : St (zbH gt 0) w X) : Ct Tryz.prog 17 [.agg (ca [.key kk])] X w (.a (.agg [.key (zjn gt kk)])) [] [] := by
 refine vFn (k0 := 0) (rs := [.cell 2 23]) (svs := [.a (.agg [.key kk])]) (R0 := [.c (zbH gt 0)]) (hnQ []) Tryz.ntmps17 Tryz.func17 rfl rfl rfl rfl rfl zan (by kernel_rfl) hX (fun r hr => by rcases List.mem_singleton.1 hr with rfl; exact hG) ?_
 conv => whnf
 refine zae rfl rfl rfl (by kernel_rfl) (fun h X w H => zhj (lab := zDm) rfl (by decide) hk32 hkb H.xk (H.fact 0 rfl)) rfl rfl rfl ?_
 conv => whnf
 refine zae rfl rfl rfl (by kernel_rfl) (fun h X w H => zzH (zfe _ _ _ _) (zcR _ _ _ _) H.xk (H.fact 0 rfl)) rfl rfl rfl ?_
 conv => whnf
 exact zav rfl
theorem zFw (hk32 : kk.length = 32) (hkb : ∀ x ∈ kk, x < 256) (hX : ∀ k ∈ X, k < w.heap.size) (hG : St (zbH gt 0) w X) : Ct Tryz.prog 19 [.agg (ca [.key kk])] X w (.a (.agg [.key (zer gt kk zwN [])])) [] [] := by
 refine vFn (k0 := 0) (rs := [.cell 2 23]) (svs := [.a (.agg [.key kk])]) (R0 := [.c (zbH gt 0)]) (hnQ []) Tryz.ntmps19 Tryz.func19 rfl rfl rfl rfl rfl zan (by kernel_rfl) hX (fun r hr => by rcases List.mem_singleton.1 hr with rfl; exact hG) ?_
 conv => whnf
 refine zae rfl rfl rfl (by kernel_rfl) (fun h X w H => zhj (lab := zwN) rfl (by decide) hk32 hkb H.xk (H.fact 0 rfl)) rfl rfl rfl ?_
 conv => whnf
 exact zav rfl
theorem zzI (hk32 : kk.length = 32) (hkb : ∀ x ∈ kk, x < 256) (hX : ∀ k ∈ X, k < w.heap.size) (hG : St (zbH gt 0) w X) : Ct Tryz.prog 21 [.agg (ca [.key kk])] X w (.a (.agg [.key (zer gt kk zjm [])])) [] [] := by
 refine vFn (k0 := 0) (rs := [.cell 2 23]) (svs := [.a (.agg [.key kk])]) (R0 := [.c (zbH gt 0)]) (hnQ []) Tryz.ntmps21 Tryz.func21 rfl rfl rfl rfl rfl zan (by kernel_rfl) hX (fun r hr => by rcases List.mem_singleton.1 hr with rfl; exact hG) ?_
 conv => whnf
 refine zae rfl rfl rfl (by kernel_rfl) (fun h X w H => zhj (lab := zjm) rfl (by decide) hk32 hkb H.xk (H.fact 0 rfl)) rfl rfl rfl ?_
 conv => whnf
 exact zav rfl
theorem zjs (hk32 : kk.length = 32) (hkb : ∀ x ∈ kk, x < 256) (hX : ∀ k ∈ X, k < w.heap.size) (hG : St (zbH gt 2) w X) (hG2 : St (zbH gt 0) w X) : Ct Tryz.prog 5 [.agg (ca [.key kk])] X w (zbD true) [] [] := by
 obtain ⟨pk, hpk⟩ : ∃ pk, pk = zjn gt kk := ⟨_, rfl⟩
 obtain ⟨uk, huk⟩ : ∃ uk, uk = zer gt kk zwN [] := ⟨_, rfl⟩
 obtain ⟨rk, hrk⟩ : ∃ rk, rk = zer gt kk zjm [] := ⟨_, rfl⟩
 refine vFn (k0 := 0) (rs := [.tmp 2]) (svs := [.a (.agg [.key kk])]) (R0 := [.c (zbH gt 2), .c (zbH gt 0)]) (hnQ []) Tryz.ntmps5 Tryz.func5 rfl rfl rfl rfl rfl zan (by kernel_rfl) hX (fun r hr => by
  rcases List.mem_cons.1 hr with rfl | hr
  ·exact hG
  ·rcases List.mem_singleton.1 hr with rfl; exact hG2) ?_
 conv => whnf
 refine zae (sv := zbD true) (rs := []) (Rs := []) rfl rfl rfl (by kernel_rfl) (fun h X w H => zw0 H.xk (H.fact 0 rfl)) rfl rfl rfl ?_
 conv => whnf
 refine zaK 19 [] (by kernel_rfl) ?_
 conv => whnf
 refine zaA (zab (sv := .a (.agg [.key pk])) (rs := []) (Rs := []) rfl rfl rfl (by kernel_rfl) rfl fun h X w H => by have := zr8 (gt := gt) hk32 hkb H.xk (H.fact 0 rfl); rw [← hpk] at this; exact this) ?_
 conv => whnf
 refine zaA (zab (sv := .a (.agg [.key pk])) (rs := []) (Rs := []) rfl rfl rfl (by kernel_rfl) rfl fun h X w H => by have := zw1 (gt := gt) hk32 hkb H.xk (H.fact 1 rfl); rw [← hpk] at this; exact this) ?_
 conv => whnf
 refine vT (decide_eq_true rfl) ?_
 conv => whnf
 refine zaA (zab (sv := .a (.agg [.key uk])) (rs := []) (Rs := []) rfl rfl rfl (by kernel_rfl) rfl fun h X w H => by have := zGF (gt := gt) hk32 hkb H.xk (H.fact 0 rfl); rw [← huk] at this; exact this) ?_
 conv => whnf
 refine zaA (zab (sv := .a (.agg [.key uk])) (rs := []) (Rs := []) rfl rfl rfl (by kernel_rfl) rfl fun h X w H => by have := zFw (gt := gt) hk32 hkb H.xk (H.fact 1 rfl); rw [← huk] at this; exact this) ?_
 conv => whnf
 refine vT (decide_eq_true rfl) ?_
 conv => whnf
 refine zaA (zab (sv := .a (.agg [.key rk])) (rs := []) (Rs := []) rfl rfl rfl (by kernel_rfl) rfl fun h X w H => by have := zDn (gt := gt) hk32 hkb H.xk (H.fact 0 rfl); rw [← hrk] at this; exact this) ?_
 conv => whnf
 refine zae (sv := .a (.agg [.key rk])) (rs := []) (Rs := []) rfl rfl rfl (by kernel_rfl) (fun h X w H => by have := zzI (gt := gt) hk32 hkb H.xk (H.fact 1 rfl); rw [← hrk] at this; exact this) rfl rfl rfl ?_
 conv => whnf
 refine vT (decide_eq_true rfl) ?_
 conv => whnf
 exact zav rfl
theorem zhM (hk32 : kk.length = 32) (hkb : ∀ x ∈ kk, x < 256) (hX : ∀ k ∈ X, k < w.heap.size) (hG : St (AtC ⟨2, 0, none⟩ [.row 64 fun i => u32 (gt i)]) w X) (hG2 : St (AtC ⟨0, 0, none⟩ [.row 64 fun i => u32 (gt i)]) w X) : Calls Tryz.prog 5 #[.agg (ca [.key kk])] w fun e w' => e = .returned (.bool true) ∧ Sep X [] w w' [] [] := by
 refine (zjs hk32 hkb hX hG hG2).mono ?_
 rintro e w' ⟨h, rfl, hS⟩
 exact ⟨rfl, hS⟩
end
end
end Go.Proofs.YtcmmpiaogfnmoaaGreatDoor
