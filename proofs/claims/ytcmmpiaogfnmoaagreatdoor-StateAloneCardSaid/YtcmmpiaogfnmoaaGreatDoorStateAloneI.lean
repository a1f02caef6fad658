/- A member of its own (layer 17), by computing. What a member proposes (layer 17), by computing. Layer 17's example, and what is plain about a member that is alone. The law StateAlone (layer 17), by computing. -/
import Derived.Test.YtcmmpiaogfnmoaaGreatDoorStateAloneH
set_option linter.unusedSimpArgs false
set_option linter.unusedVariables false
set_option maxRecDepth 200000
set_option maxHeartbeats 6000000
namespace Go.Proofs.YtcmmpiaogfnmoaaGreatDoor
section
open Go.RowKit
theorem zyf : Inj zbg := fun _ _ _ _ => rfl
section
variable {X : List Nat} {w : World}
theorem zvQ (hX : ∀ k ∈ X, k < w.heap.size) (xs : List (List Int)) (q : Qd) (hq : St (SlQ (zcs zaz) xs q) w X) (hl : xs.length * 24 ≤ 140737488355328) : Ct Tryz.prog 76 [.slice q.1 xs.length q.2] X w (.a (.s (.p (.hd 0 xs.length)))) [zbh (zcs zaz) xs 24] [.q 0 (zbY (zcs zaz) xs)] := by
 have hbig := SlQ.big hq
 refine vFn (k0 := 1) (rs := [.tmp 2]) (svs := [.a (.s (.p (.hd 0 xs.length)))]) (R0 := [.sl 0 xs.length (SlF (zcs zaz) xs), .h 0 fun q' _ => q' = q]) (hnQ [q]) Tryz.ntmps76 Tryz.func76 rfl rfl rfl rfl rfl zap (by kernel_rfl) hX (fun r hr => by
  rcases List.mem_cons.1 hr with rfl | hr
  ·exact hq
  ·rcases List.mem_singleton.1 hr with rfl; exact fun _ _ => rfl) ?_
 conv => whnf
 refine zbz (ze0 1 rfl rfl rfl rfl (by kernel_rfl)) rfl rfl ?_
 conv => whnf
 refine vIf (fun h => ?_) fun h => ?_
 ·obtain rfl : xs = [] := List.eq_nil_of_length_eq_zero (hq.now.1 (Option.isNone_iff_eq_none.1 h))
  conv => whnf
  exact zaK [(0, 1)] [0] (.inr rfl) ⟨.inr ⟨rfl, rfl, fun _ => rfl⟩, trivial⟩ rfl ⟨.inr fun _ _ _ _ => zbE, trivial⟩
 ·conv => whnf
  refine zbC (ze1 (T := (zcs zaz)) (e := 24) rfl (by kernel_rfl) (by kernel_rfl)) rfl rfl ?_
  conv => whnf
  refine zaZ (zdi (.q 1 (zbY (zcs zaz) [])) (fun _ _ _ => zbE) rfl (zgz (T := (zcs zaz)) (e := 24) (xs := []) (ys := xs) (r := 1) (by_ := 24) (ztv zaz) rfl rfl rfl rfl rfl ⟨by kernel_rfl, by kernel_rfl⟩ (by simp; exact hbig) (by simpa using hl) rfl rfl (.head _))) ?_
  rw [List.nil_append]
  conv => whnf
  exact zaK [(0, 2)] [0] (.inl rfl) ⟨.inl rfl, trivial⟩ rfl ⟨.inl rfl, trivial⟩
theorem zvR (hX : ∀ k ∈ X, k < w.heap.size) (xs : List (Rat)) (q : Qd) (hq : St (SlQ zdI xs q) w X) (hl : xs.length * 64 ≤ 140737488355328) : Ct Tryz.prog 78 [.slice q.1 xs.length q.2] X w (.a (.s (.p (.hd 0 xs.length)))) [zbh zdI xs 46] [.q 0 (zbY zdI xs)] := by
 have hbig := SlQ.big hq
 refine vFn (k0 := 1) (rs := [.tmp 2]) (svs := [.a (.s (.p (.hd 0 xs.length)))]) (R0 := [.sl 0 xs.length (SlF zdI xs), .h 0 fun q' _ => q' = q]) (hnQ [q]) Tryz.ntmps78 Tryz.func78 rfl rfl rfl rfl rfl zap (by kernel_rfl) hX (fun r hr => by
  rcases List.mem_cons.1 hr with rfl | hr
  ·exact hq
  ·rcases List.mem_singleton.1 hr with rfl; exact fun _ _ => rfl) ?_
 conv => whnf
 refine zbz (ze0 1 rfl rfl rfl rfl (by kernel_rfl)) rfl rfl ?_
 conv => whnf
 refine vIf (fun h => ?_) fun h => ?_
 ·obtain rfl : xs = [] := List.eq_nil_of_length_eq_zero (hq.now.1 (Option.isNone_iff_eq_none.1 h))
  conv => whnf
  exact zaK [(0, 1)] [0] (.inr rfl) ⟨.inr ⟨rfl, rfl, fun _ => rfl⟩, trivial⟩ rfl ⟨.inr fun _ _ _ _ => zbE, trivial⟩
 ·conv => whnf
  refine zbC (ze1 (T := zdI) (e := 46) rfl (by kernel_rfl) (by kernel_rfl)) rfl rfl ?_
  conv => whnf
  refine zaZ (zdi (.q 1 (zbY zdI [])) (fun _ _ _ => zbE) rfl (zgz (T := zdI) (e := 46) (xs := []) (ys := xs) (r := 1) (by_ := 64) zk9 rfl rfl rfl rfl rfl ⟨by kernel_rfl, by kernel_rfl⟩ (by simp; exact hbig) (by simpa using hl) rfl rfl (.head _))) ?_
  rw [List.nil_append]
  conv => whnf
  exact zaK [(0, 2)] [0] (.inl rfl) ⟨.inl rfl, trivial⟩ rfl ⟨.inl rfl, trivial⟩
theorem zvS (hX : ∀ k ∈ X, k < w.heap.size) (xs : List (Nat × List Nat)) (q : Qd) (hq : St (SlQ zbg xs q) w X) (hl : xs.length * 40 ≤ 140737488355328) : Ct Tryz.prog 79 [.slice q.1 xs.length q.2] X w (.a (.s (.p (.hd 0 xs.length)))) [zbh zbg xs 69] [.q 0 (zbY zbg xs)] := by
 have hbig := SlQ.big hq
 refine vFn (k0 := 1) (rs := [.tmp 2]) (svs := [.a (.s (.p (.hd 0 xs.length)))]) (R0 := [.sl 0 xs.length (SlF zbg xs), .h 0 fun q' _ => q' = q]) (hnQ [q]) Tryz.ntmps79 Tryz.func79 rfl rfl rfl rfl rfl zap (by kernel_rfl) hX (fun r hr => by
  rcases List.mem_cons.1 hr with rfl | hr
  ·exact hq
  ·rcases List.mem_singleton.1 hr with rfl; exact fun _ _ => rfl) ?_
 conv => whnf
 refine zbz (ze0 1 rfl rfl rfl rfl (by kernel_rfl)) rfl rfl ?_
 conv => whnf
 refine vIf (fun h => ?_) fun h => ?_
 ·obtain rfl : xs = [] := List.eq_nil_of_length_eq_zero (hq.now.1 (Option.isNone_iff_eq_none.1 h))
  conv => whnf
  exact zaK [(0, 1)] [0] (.inr rfl) ⟨.inr ⟨rfl, rfl, fun _ => rfl⟩, trivial⟩ rfl ⟨.inr fun _ _ _ _ => zbE, trivial⟩
 ·conv => whnf
  refine zbC (ze1 (T := zbg) (e := 69) rfl (by kernel_rfl) (by kernel_rfl)) rfl rfl ?_
  conv => whnf
  refine zaZ (zdi (.q 1 (zbY zbg [])) (fun _ _ _ => zbE) rfl (zgz (T := zbg) (e := 69) (xs := []) (ys := xs) (r := 1) (by_ := 40) zyf rfl rfl rfl rfl rfl ⟨by kernel_rfl, by kernel_rfl⟩ (by simp; exact hbig) (by simpa using hl) rfl rfl (.head _))) ?_
  rw [List.nil_append]
  conv => whnf
  exact zaK [(0, 2)] [0] (.inl rfl) ⟨.inl rfl, trivial⟩ rfl ⟨.inl rfl, trivial⟩
structure Mem.small (x : Mem) : Prop where
 ids : x.t.ids.length ≤ 1000000
 ls : x.t.ls.length ≤ 1000000
 ps : x.t.ps.length ≤ 1000000
 secrets : x.secrets.length ≤ 1000000
 chains : x.chains.length ≤ 1000000
 lev : ∀ l ∈ x.t.ls, l.length ≤ 1000000
 left : ∀ r ∈ x.chains, r.left.length ≤ 1000000
theorem zDC {x : Mem} {q1 q2 q3 q4 q5 : Qd} (hX : ∀ k ∈ X, k < w.heap.size) (hs : x.small) (hm : x.at_ q1 q2 q3 q4 q5 w X) :
  Ct Tryz.prog 47 [x.val q1 q2 q3 q4 q5] X w (.a (zi7 x 0)) [zbh zaz x.t.ids 3, .gone, .gone, zbh zbU x.secrets 23, .gone] [.q 0 (zbY zaz x.t.ids), .sl 1 x.t.ls.length (SlF (zcs zaz) x.t.ls), .sl 2 x.t.ps.length (SlF zbU x.t.ps), .q 3 (zbY zbU x.secrets), .sl 4 x.chains.length (SlF zdI x.chains)] := by
 refine vFn (k0 := 5) (rs := [.cell 2 37]) (svs := [.a (zi7 x 0)]) (R0 := znI x 0) (hnQ [q1, q2, q3, q4, q5]) Tryz.ntmps47 Tryz.func47 rfl rfl rfl rfl rfl zap (by kernel_rfl) hX hm.all ?_
 conv => whnf
 refine zaY 17 [] (by kernel_rfl) ?_
 conv => whnf
 refine zaT (zae (sv := .a (.s (.p (.hd 0 x.t.ids.length)))) (rs := [zbh zaz x.t.ids 3]) (Rs := [.q 0 (zbY zaz x.t.ids)]) rfl rfl rfl (by kernel_rfl) rfl fun h X w H => znr H.xk x.t.ids (h.r 0) (H.fact 0 rfl) (by have := hs.ids; omega)) ?_
 conv => whnf
 refine zaT (zae (sv := .a (.s (.p (.hd 0 x.t.ls.length)))) (rs := [zbh (zcs zaz) x.t.ls 24]) (Rs := [.q 0 (zbY (zcs zaz) x.t.ls)]) rfl rfl rfl (by kernel_rfl) rfl fun h X w H => zvQ H.xk x.t.ls (h.r 1) (H.fact 2 rfl) (by have := hs.ls; omega)) ?_
 conv => whnf
 refine zaT (zae (sv := .a (.s (.p (.hd 0 x.t.ps.length)))) (rs := [zbh zbU x.t.ps 23]) (Rs := [.q 0 (zbY zbU x.t.ps)]) rfl rfl rfl (by kernel_rfl) rfl fun h X w H => zns H.xk x.t.ps (h.r 2) (H.fact 4 rfl) (by have := hs.ps; omega)) ?_
 conv => whnf
 refine ⟨Nat, fun k l m R i => ⟨k, (34, zaG .i64 i) :: zbP [1, 2, 32, 33] l, m, R⟩, fun i => i ≤ x.t.ls.length, fun i => x.t.ls.length - i, ⟨0, [], [0, 1, 2, 3, 4, 5, 6, 7], Nat.zero_le _, zbX⟩, fun i hi => ?_⟩
 conv => whnf
 refine vIf (fun hc => ?_) fun hc => ?_
 ·have hi2 : i < x.t.ls.length := by
   have : (i : Int) < ((x.t.ls.length : Nat) : Int) := of_decide_eq_true hc
   omega
  obtain ⟨lx, hlx⟩ : ∃ lx, x.t.ls[i]? = some lx := ⟨_, jP hi2⟩
  have hlb := hs.lev lx (List.mem_of_getElem? hlx)
  conv => whnf
  refine ⟨i, ⟨rfl, hi2, hi2⟩, ?_⟩
  conv => whnf
  refine zcR (zu4 (T := zcs zaz) (x := lx) (n := 1) (off := 0) (sub := [.one (.p (.hd 10 lx.length))]) (Rs := [.sl 10 lx.length (SlF zaz lx)]) (sv := .a (.s (.p (.hd 10 lx.length)))) (fun μ => [μ]) 1 hlx rfl (.tail _ (.head _)) rfl rfl (by kernel_rfl) (.inr ⟨_, rfl, rfl, rfl, rfl⟩) (fun μ h hh => by
   have e : h.r 10 = μ := hh 0 (by omega)
   subst e
   rfl) fun μ h w Y hh hn r hr => by
    have e : h.r 10 = μ := hh 0 (by omega)
    rcases List.mem_singleton.1 hr with rfl
    subst e
    exact hn) rfl rfl ?_
  conv => whnf
  refine zaY 7 [] (by kernel_rfl) ?_
  conv => whnf
  refine zaT (zae (sv := .a (.s (.p (.hd 0 lx.length)))) (rs := [.gone]) (Rs := [.sl 0 lx.length (SlF zaz lx)]) rfl rfl rfl (by kernel_rfl) rfl fun h X w H => Ct.frz H.xk (znr H.xk lx (h.r 10) (H.fact 0 rfl) (by omega))) ?_
  conv => whnf
  refine ⟨i, ⟨rfl, hi2, hi2⟩, ?_⟩
  conv => whnf
  refine zu5 (zu3 (T := zcs zaz) (fun h => [h.r 11]) zap rfl hlx (.tail _ (.tail _ (.tail _ (.head _)))) rfl rfl rfl rfl rfl (fun h => ⟨rfl, trivial⟩) (fun h μ => rfl) fun h X w H => H.fact 0 rfl) ?_
  conv => whnf
  refine zei (by omega) (by have := hs.ls; omega) ?_
  conv => whnf
  exact ⟨i + 1, [], [3, 0, 4, 5, 6, 7, 8, 9], ⟨hi2, Nat.sub_lt_sub_left hi2 (Nat.lt_succ_self i)⟩, zbX⟩
 ·conv => whnf
  refine zaY 7 [] (by kernel_rfl) ?_
  conv => whnf
  refine zaT (zae (sv := .a (.s (.p (.hd 0 x.secrets.length)))) (rs := [zbh zbU x.secrets 23]) (Rs := [.q 0 (zbY zbU x.secrets)]) rfl rfl rfl (by kernel_rfl) rfl fun h X w H => zns H.xk x.secrets (h.r 3) (H.fact 6 rfl) (by have := hs.secrets; omega)) ?_
  conv => whnf
  refine zaT (zae (sv := .a (.s (.p (.hd 0 x.chains.length)))) (rs := [zbh zdI x.chains 46]) (Rs := [.q 0 (zbY zdI x.chains)]) rfl rfl rfl (by kernel_rfl) rfl fun h X w H => zvR H.xk x.chains (h.r 4) (H.fact 8 rfl) (by have := hs.chains; omega)) ?_
  conv => whnf
  refine ⟨Nat, fun k l m R i => ⟨k, (59, zaG .i64 i) :: zbP [1, 2, 57, 58] l, m, R⟩, fun i => i ≤ x.chains.length, fun i => x.chains.length - i, ⟨0, [], [0, 1, 2, 3, 4, 5, 6, 7, 8, 9], Nat.zero_le _, zbX⟩, fun i hi => ?_⟩
  conv => whnf
  refine vIf (fun hc => ?_) fun hc => ?_
  ·have hi2 : i < x.chains.length := by
    have : (i : Int) < ((x.chains.length : Nat) : Int) := of_decide_eq_true hc
    omega
   obtain ⟨rx, hrx⟩ : ∃ rx, x.chains[i]? = some rx := ⟨_, jP hi2⟩
   have hlb := hs.left rx (List.mem_of_getElem? hrx)
   conv => whnf
   refine ⟨i, ⟨rfl, hi2, hi2⟩, ?_⟩
   conv => whnf
   refine zcR (zu4 (T := zdI) (x := rx) (n := 34) (off := 0) (sub := [.key rx.chain, .one (.p (.v (.int .u64 ((rx.gen : Nat) : Int)))), .one (.p (.hd 12 rx.left.length))]) (Rs := [.sl 12 rx.left.length (SlF zbg rx.left)]) (fun μ => [μ]) 1 hrx rfl (.head _) rfl rfl (by kernel_rfl) (.inl ⟨rfl, rfl⟩) (fun μ h hh => by
    have e : h.r 12 = μ := hh 0 (by omega)
    subst e
    rfl) fun μ h w Y hh hn r hr => by
     have e : h.r 12 = μ := hh 0 (by omega)
     rcases List.mem_singleton.1 hr with rfl
     subst e
     exact hn) rfl rfl ?_
   conv => whnf
   refine zaY 6 [] (by kernel_rfl) ?_
   conv => whnf
   refine zaT (zae (sv := .a (.s (.p (.hd 0 rx.left.length)))) (rs := [.gone]) (Rs := [.sl 0 rx.left.length (SlF zbg rx.left)]) rfl rfl rfl (by kernel_rfl) rfl fun h X w H => Ct.frz H.xk (zvS H.xk rx.left (h.r 12) (H.fact 0 rfl) (by omega))) ?_
   conv => whnf
   refine ⟨i, ⟨rfl, hi2, hi2⟩, ?_⟩
   conv => whnf
   refine zu5 (zu3 (T := zdI) (off := 33) (fun h => [h.r 14]) zap rfl hrx (.tail _ (.tail _ (.head _))) rfl rfl rfl rfl rfl (fun h => ⟨rfl, trivial⟩) (fun h μ => rfl) fun h X w H => H.fact 0 rfl) ?_
   conv => whnf
   refine zei (by omega) (by have := hs.chains; omega) ?_
   conv => whnf
   exact ⟨i + 1, [], [0, 3, 4, 5, 6, 7, 8, 9, 10, 11], ⟨hi2, Nat.sub_lt_sub_left hi2 (Nat.lt_succ_self i)⟩, zbX⟩
  ·conv => whnf
   refine zgy 8 rfl (.tail _ (.tail _ (.tail _ (.head _)))) rfl ?_
   refine zgy 9 rfl (.tail _ (.tail _ (.tail _ (.head _)))) rfl ?_
   refine zgy 11 rfl (.tail _ (.tail _ (.head _))) rfl ?_
   exact zaK [(0, 7), (1, 8), (2, 9), (3, 10), (4, 11)] [7, 2, 1, 4, 0] (.inl rfl) ⟨.inl rfl, .inl rfl, trivial⟩ rfl ⟨.inl rfl, .inl rfl, .inl rfl, .inl rfl, .inl rfl, trivial⟩
end
end
section
open Go.RowKit
section
variable {X : List Nat} {w : World} {gt : Nat → Nat}
abbrev zyg (x : Mem) : List RB := [zbh zaz x.t.ids 3, .gone, .gone, zbh zbU x.secrets 23, .gone]
abbrev zEM (x : Mem) : List SF := [.q 0 (zbY zaz x.t.ids), .sl 1 x.t.ls.length (SlF (zcs zaz) x.t.ls), .sl 2 x.t.ps.length (SlF zbU x.t.ps), .q 3 (zbY zbU x.secrets), .sl 4 x.chains.length (SlF zdI x.chains)]
abbrev zEN (x : Mem) (i : Nat) : List SF := [.q i (zbY zaz x.t.ids), .sl (i + 1) x.t.ls.length (SlF (zcs zaz) x.t.ls), .sl (i + 2) x.t.ps.length (SlF zbU x.t.ps), .q (i + 3) (zbY zbU x.secrets), .sl (i + 4) x.chains.length (SlF zdI x.chains)]
theorem zpi {x : Mem} {sec : List Nat} {q1 q2 q3 q4 q5 : Qd} (hX : ∀ k ∈ X, k < w.heap.size) (hok : x.ok = true) (hsz : ¬ zaX sec = zaX []) (h32 : sec.length = 32) (hsb : ∀ z ∈ sec, z < 256) (hg : x.t.good) (hs : x.small) (hm : x.at_ q1 q2 q3 q4 q5 w X) (hG : St (zcG gt 2) w X) :
  Ct Tryz.prog 24 [x.val q1 q2 q3 q4 q5, .agg (ca [.key sec])] X w (.tup [.agg [zdE 3, zdE x.id, .key (zdk gt sec)], zi7 { x with ahead := sec } 0, .s (.p (.v (.int .i64 0)))]) (zyg x) (zEM x) := by
 have he : x.err = 0 := by rw [Mem.err, if_pos hok]
 refine vFn (k0 := 5) (rs := [.cell 4 57, .cell 5 37, .tmp 6]) (svs := [.a (zi7 x 0), .a (.agg [.key sec])]) (R0 := znI x 0 ++ [.c (zcG gt 2)]) (hnQ [q1, q2, q3, q4, q5]) Tryz.ntmps24 Tryz.func24 rfl rfl rfl rfl rfl zap (by kernel_rfl) hX (fun r hr => by
  rcases List.mem_cons.1 hr with rfl | hr
  ·exact hm.ids
  rcases List.mem_cons.1 hr with rfl | hr
  ·exact hm.ls
  rcases List.mem_cons.1 hr with rfl | hr
  ·exact hm.ps
  rcases List.mem_cons.1 hr with rfl | hr
  ·exact hm.secrets
  rcases List.mem_cons.1 hr with rfl | hr
  ·exact hm.chains
  ·rcases List.mem_singleton.1 hr with rfl; exact hG) ?_
 conv => whnf
 refine zah (sv := zaG .i64 0) (rs := []) (Rs := []) rfl rfl rfl (by kernel_rfl) (fun h X w H => he ▸ zdX (q1 := h.r 0) (q2 := h.r 1) (q3 := h.r 2) (q4 := h.r 3) (q5 := h.r 4) H.xk hg hs.secrets ⟨H.fact 0 rfl, H.fact 1 rfl, H.fact 2 rfl, H.fact 3 rfl, H.fact 4 rfl⟩) rfl rfl rfl ?_
 conv => whnf
 refine vIf (fun hc => ?_) fun hc => ?_
 ·have : zaX sec = zaX [] := of_decide_eq_true hc
  exact absurd this hsz
 conv => whnf
 refine ztG 5 (zaF (sv := .a (zi7 x 9)) (rs := zyg x) (Rs := zEN x 9) (zae (sv := .a (zi7 x 0)) (rs := zyg x) (Rs := zEM x) rfl rfl rfl (by kernel_rfl) rfl fun h X w H => zDC (q1 := h.r 0) (q2 := h.r 1) (q3 := h.r 2) (q4 := h.r 3) (q5 := h.r 4) H.xk hs ⟨H.fact 0 rfl, H.fact 1 rfl, H.fact 2 rfl, H.fact 3 rfl, H.fact 4 rfl⟩) rfl rfl) ?_
 conv => whnf
 obtain ⟨pt, hpt⟩ : ∃ pt, pt = zdk gt sec := ⟨_, rfl⟩
 rw [← hpt]
 refine zaY 7 [7] (by kernel_rfl) ?_
 conv => whnf
 refine zaT (zae (sv := .a (.agg [.key pt])) (rs := []) (Rs := []) rfl rfl rfl (by kernel_rfl) rfl fun h X w H => hpt ▸ ze9 h32 hsb H.xk (H.fact 10 rfl)) ?_
 conv => whnf
 exact zaK [(0, 9), (1, 10), (2, 11), (3, 12), (4, 13)] [0, 1, 2, 3, 4] (.inl rfl) ⟨.inl rfl, .inl rfl, trivial⟩ rfl ⟨.inl rfl, .inl rfl, .inl rfl, .inl rfl, .inl rfl, trivial⟩
theorem zsa {x : Mem} {sec : List Nat} {q1 q2 q3 q4 q5 : Qd} (hX : ∀ k ∈ X, k < w.heap.size) (hbad : x.ok = false ∨ zaX sec = zaX []) (hg : x.t.good) (hs : x.small) (hm : x.at_ q1 q2 q3 q4 q5 w X) (hG : St (zcG gt 2) w X) :
  Ct Tryz.prog 24 [x.val q1 q2 q3 q4 q5, .agg (ca [.key sec])] X w (.tup [.agg [zdE 0, zdE 0, .key []], zi7 noM 0, .s (.p (.v (.int .i64 1)))]) [.gone, .gone, .gone, .gone, .gone] (znI noM 0) := by
 refine vFn (k0 := 5) (rs := [.cell 4 57, .cell 5 37, .tmp 6]) (svs := [.a (zi7 x 0), .a (.agg [.key sec])]) (R0 := znI x 0 ++ [.c (zcG gt 2)]) (hnQ [q1, q2, q3, q4, q5]) Tryz.ntmps24 Tryz.func24 rfl rfl rfl rfl rfl zap (by kernel_rfl) hX (fun r hr => by
  rcases List.mem_cons.1 hr with rfl | hr
  ·exact hm.ids
  rcases List.mem_cons.1 hr with rfl | hr
  ·exact hm.ls
  rcases List.mem_cons.1 hr with rfl | hr
  ·exact hm.ps
  rcases List.mem_cons.1 hr with rfl | hr
  ·exact hm.secrets
  rcases List.mem_cons.1 hr with rfl | hr
  ·exact hm.chains
  ·rcases List.mem_singleton.1 hr with rfl; exact hG) ?_
 conv => whnf
 cases hok : x.ok with
 | false =>
  have he : x.err = 1 := by simp [Mem.err, hok]
  refine zah (sv := zaG .i64 1) (rs := []) (Rs := []) rfl rfl rfl (by kernel_rfl) (fun h X w H => he ▸ zdX (q1 := h.r 0) (q2 := h.r 1) (q3 := h.r 2) (q4 := h.r 3) (q5 := h.r 4) H.xk hg hs.secrets ⟨H.fact 0 rfl, H.fact 1 rfl, H.fact 2 rfl, H.fact 3 rfl, H.fact 4 rfl⟩) rfl rfl rfl ?_
  conv => whnf
  exact zaK [(0, 20), (1, 21), (2, 22), (3, 23), (4, 24)] [0, 0, 0, 0, 0] (.inr (by simp only [nlV, nlT, nlA, nlC]; exact ⟨⟨rfl, rfl, rfl, trivial⟩, ⟨rfl, rfl, rfl, rfl, rfl, rfl, rfl, rfl, rfl, rfl, rfl, rfl, rfl, rfl, rfl, trivial⟩, rfl, trivial⟩)) trivial rfl ⟨.inr (zaM rfl), .inr (zaM rfl), .inr (zaM rfl), .inr (zaM rfl), .inr (zaM rfl), trivial⟩
 | true =>
  have hz : zaX sec = zaX [] := by
   rcases hbad with h | h
   ·rw [h] at hok; cases hok
   ·exact h
  have he : x.err = 0 := by simp [Mem.err, hok]
  refine zah (sv := zaG .i64 0) (rs := []) (Rs := []) rfl rfl rfl (by kernel_rfl) (fun h X w H => he ▸ zdX (q1 := h.r 0) (q2 := h.r 1) (q3 := h.r 2) (q4 := h.r 3) (q5 := h.r 4) H.xk hg hs.secrets ⟨H.fact 0 rfl, H.fact 1 rfl, H.fact 2 rfl, H.fact 3 rfl, H.fact 4 rfl⟩) rfl rfl rfl ?_
  conv => whnf
  refine vIf (fun hc => ?_) fun hc => ?_
  ·conv => whnf
   exact zaK [(0, 20), (1, 21), (2, 22), (3, 23), (4, 24)] [0, 0, 0, 0, 0] (.inr (by simp only [nlV, nlT, nlA, nlC]; exact ⟨⟨rfl, rfl, rfl, trivial⟩, ⟨rfl, rfl, rfl, rfl, rfl, rfl, rfl, rfl, rfl, rfl, rfl, rfl, rfl, rfl, rfl, trivial⟩, rfl, trivial⟩)) trivial rfl ⟨.inr (zaM rfl), .inr (zaM rfl), .inr (zaM rfl), .inr (zaM rfl), .inr (zaM rfl), trivial⟩
  ·have : ¬ zaX sec = zaX [] := of_decide_eq_false hc
   exact absurd hz this
end
end
section
open Go.RowKit
theorem zvT {v : Nat} (hv : v < pN) (h : ∀ i, i < 32 → zbc v i = 0) : v = 0 := by
 have cg : ∀ {u v : Nat → Nat}, (∀ i, i < 32 → u i = v i) → ∀ i, i < 32 → zoH u i = zoH v i := fun {u v} h i hi => by
  unfold zoH
  split
  ·rw [h 31 (by decide)]
  ·exact h i hi
 have h1 := znm v hv
 have h2 : znX (zbc v) = znX (zbc 0) := zrR (cg fun i hi => by rw [h i hi, zrQ])
 rw [h1, znm 0 zdU] at h2
 exact h2
theorem zfa (b : List Nat) : zaX [] ≠ zaX (zpd b) := by
 unfold zpd
 have hb := zBo (fun i => b.getD i 0)
 have hl := zAx (fun i => b.getD i 0) 9
 revert hb hl
 generalize zea (fun i => b.getD i 0) 9 = v
 intro hb hl h
 have h1 := zka.1 h
 refine hb (zvT hl fun i hi => ?_)
 have h2 := h1 i hi
 rw [zfy _ i hi] at h2
 exact h2.symm
theorem zBD {kd : Int} {n : Nat} (hk : kd = 1 ∨ kd = 2) (hn : n ≤ 1048576) : zeo kd [(n : Int)] [] = true := by
 have h1 : ztx (n : Int) = false := by unfold ztx; simp; omega
 have h2 : zdh [(n : Int)] [] = true := by
  unfold zdh
  rw [show ([(n : Int)].any ztx) = false by simp [h1], show zin [(n : Int)] = true by rfl, show zd3 [(n : Int)].length [] = true by rfl]
  rfl
 unfold zeo
 rw [h2]
 rcases hk with rfl | rfl <;> rfl
theorem zrj {kd id : Int} : zeo kd [id] [] = (decide (kd = 1 ∨ kd = 2) && decide (0 ≤ id ∧ id ≤ 1048576)) := by
 have h2 : zdh [id] [] = !ztx id := by
  unfold zdh
  rw [show ([id].any ztx) = ztx id by simp, show zin [id] = true by rfl, show zd3 [id].length [] = true by rfl]
  simp
 unfold zeo
 rw [h2]
 unfold ztx
 by_cases a : kd = 1 <;> by_cases b : kd = 2 <;> by_cases c : id < 0 <;> by_cases d : id > 1048576 <;> simp_all <;> omega
theorem zBE {kd id : Int} {p : List Nat} (hm : zeo kd [id] [] = true) (hp : zaX [] ≠ zaX p) : (za1 kd id p).ok = true := by
 have h := zrf hm hp
 cases ho : (za1 kd id p).ok with
 | true => rfl
 | false =>
  unfold Tre.nodes at h
  rw [ho, if_neg (by simp)] at h
  simp at h
theorem znN (kd id : Int) (p : List Nat) : (za1 kd id p).good := by
 have e : zbs (za1 kd id p).two (za1 kd id p).ls (za1 kd id p).ids.length = [ziX] := rfl
 refine ⟨ziY kd id p, fun _ => ?_, fun _ => ?_⟩
 ·rw [e]; decide
 ·rw [e]
  intro j x h
  match j with
  | 0 => obtain rfl := Option.some.inj h; exact .inl (by decide)
  | j + 1 => simp at h
theorem znO {gt : Nat → Nat} {kd : Int} {n : Nat} {seed : List Nat} (hm : zeo kd [(n : Int)] [] = true) : (zn2 gt kd n seed).path = ([0], [ziX], 0) := by
 show zey (kd == 1) kd [(n : Int)] [] n = _
 unfold zey
 rw [if_pos hm, if_pos (by simp)]
 have e : zbs (kd == 1) [] [(n : Int)].length = [ziX] := rfl
 have e2 : zem [(n : Int)] n = 0 := by unfold zem; simp
 rw [e, e2]
 rfl
theorem zmb {gt : Nat → Nat} {kd : Int} {n : Nat} {seed : List Nat} (hm : zeo kd [(n : Int)] [] = true) : (zn2 gt kd n seed).ok = true := by
 have h1 : (zn2 gt kd n seed).t.ok = true := zBE hm (zfa _)
 unfold Mem.ok
 rw [h1, znO hm]
 rfl
def zsb : List Nat := 1 :: List.replicate 31 0
section
variable {X : List Nat} {w : World} {gt : Nat → Nat}
theorem znP (hX : ∀ k ∈ X, k < w.heap.size) (hG : St (zcG gt 2) w X) : Ct Tryz.prog 8 [] X w (zaH true) [] [] := by
 have hm := zBD (kd := 1) (n := 5) (.inl rfl) (by decide)
 have hok := zmb (gt := gt) (seed := zsb) hm
 have hgd : (zn2 gt 1 5 zsb).t.good := znN _ _ _
 obtain ⟨pt, lf, ep, rt, hx⟩ : ∃ pt lf ep rt, zn2 gt 1 5 zsb = ⟨za1 1 5 pt, 5, lf, [], [], ep, [rt]⟩ := ⟨_, _, _, _, rfl⟩
 have her : (zn2 gt 1 5 zsb).err = 0 := by rw [Mem.err, if_pos hok]
 rw [hx] at her hgd
 refine vFn (k0 := 0) (rs := [.tmp 0]) (svs := []) (R0 := [.c (zcG gt 2)]) (hnQ []) Tryz.ntmps8 Tryz.func8 rfl rfl rfl rfl rfl zap (by kernel_rfl) hX (fun r hr => by rcases List.mem_singleton.1 hr with rfl; exact hG) ?_
 conv => whnf
 refine zyp (.a (.agg [.key zsb])) (fun h w => zh7 (n := 32) (z := [.one (bv 0), .row 31 fun _ => bv 0]) [.key zsb] rfl (by kernel_rfl) (by kernel_rfl) ⟨_, [.one _], 0, _, rfl, rfl, rfl, rfl, rfl⟩ (by kernel_rfl)) rfl rfl ?_
 conv => whnf
 refine zah (sv := .tup [zi7 ⟨za1 1 5 pt, 5, lf, [], [], ep, [rt]⟩ 0, .s (.p (.v (.int .i64 0)))]) (rs := [.gone, .gone, .gone, .gone, .gone]) (Rs := znI ⟨za1 1 5 pt, 5, lf, [], [], ep, [rt]⟩ 0) rfl rfl rfl (by kernel_rfl) (fun h X w H => hx ▸ zpf (kd := 1) (n := 5) hm (zfa _) (by decide) rfl (by decide) H.xk (H.fact 0 rfl)) rfl rfl rfl ?_
 conv => whnf
 refine zah (sv := zaG .i64 0) (rs := []) (Rs := []) rfl rfl rfl (by kernel_rfl) (fun h X w H => her ▸ zdX (x := ⟨za1 1 5 pt, 5, lf, [], [], ep, [rt]⟩) (q1 := h.r 0) (q2 := h.r 1) (q3 := h.r 2) (q4 := h.r 3) (q5 := h.r 4) H.xk hgd (Nat.zero_le _) ⟨H.fact 0 rfl, H.fact 1 rfl, H.fact 2 rfl, H.fact 3 rfl, H.fact 4 rfl⟩) rfl rfl rfl ?_
 conv => whnf
 exact zan rfl
end
end
section
open Go.RowKit
theorem zgR {α : Type} {p : α → α → Bool} (h : ∀ x, p x x = true) : ∀ l : List α, zdn p l l = true
 | [] => rfl
 | a :: l => by rw [zdn, h, zgR h l]; rfl
theorem zi1 (l : List Int) : zbT l l = true := decide_eq_true rfl
theorem zi2 (l : List (List Nat)) : zee l l = true := decide_eq_true rfl
theorem znQ (l : List (Nat × List Nat)) : zdC l l = true := decide_eq_true rfl
theorem znR (r : Rat) : zbx r r = true := by unfold zbx; rw [znQ]; simp
theorem znS (t : Tre) : zcA t t = true := by
 unfold zcA zb3
 rw [zi1, zgR zi1, zi2]
 simp
theorem znT (e : Epo) : zma e e = true := by
 unfold zma zBC
 simp [zsp]
theorem znU (x : Mem) : zby x x = true := by
 unfold zby
 rw [znS, zi2, znT, zgR znR]
 simp
structure Alone (gt : Nat → Nat) (kd : Int) (n : Nat) (x : Mem) : Prop where
 id : x.id = n
 n0 : x.e.n = 0
 one : x.chains.length = 1
 ok : x.ok = true
 good : x.t.good
 small : x.small
 keys : x.keys
 way : x.ok = true → x.way.length = x.secrets.length + 1 ∧ ∀ j ∈ x.way, 0 ≤ j ∧ j < x.t.ps.length
 knows : x.knows gt = true
theorem zrk {gt : Nat → Nat} {kd : Int} {n : Nat} {seed : List Nat} (hm : zeo kd [(n : Int)] [] = true) : (zn2 gt kd n seed).way = [0] := by rw [Mem.way, if_pos (zmb hm), znO hm]
theorem zsc {gt : Nat → Nat} {kd : Int} {n : Nat} {seed : List Nat} (hm : zeo kd [(n : Int)] [] = true) : (zn2 gt kd n seed).knows gt = true := by
 unfold Mem.knows
 rw [zmb hm, zrk hm]
 show (true && zen gt [zdk gt (zed gt seed)] [0] [zed gt seed]) = true
 generalize zed gt seed = lf
 unfold zen zen
 generalize zdk gt lf = p
 rw [show ([p] : List (List Nat)).getD (0 : Int).toNat [] = p from rfl, decide_eq_true rfl]
 rfl
theorem zvU {gt : Nat → Nat} {kd : Int} {n : Nat} {seed : List Nat} : (zn2 gt kd n seed).keys := ⟨⟨zec gt seed zjp [], zcI gt seed zjp []⟩, fun s h => by cases h⟩
theorem zsd {gt : Nat → Nat} {kd : Int} {n : Nat} {seed : List Nat} (hm : zeo kd [(n : Int)] [] = true) : Alone gt kd n (zn2 gt kd n seed) where
 id := rfl
 n0 := rfl
 one := rfl
 ok := zmb hm
 good := znN _ _ _
 small := ⟨Nat.succ_le_succ (Nat.zero_le _), Nat.zero_le _, Nat.succ_le_succ (Nat.zero_le _), Nat.zero_le _, Nat.succ_le_succ (Nat.zero_le _), fun l h => (by cases h), fun r h => by rcases List.mem_singleton.1 h with rfl; exact Nat.zero_le _⟩
 keys := zvU
 way := fun _ => by
  rw [zrk hm]
  exact ⟨rfl, fun j h => by rcases List.mem_singleton.1 h with rfl; exact ⟨Int.le_refl _, Int.zero_lt_one⟩⟩
 knows := zsc hm
section
variable {X : List Nat} {w : World} {gt : Nat → Nat} {seed sec : List Nat}
theorem zmc {kd id : Int} (hmb : zeo kd [id] [] = false) (hk32 : seed.length = 32) (hkb : ∀ x ∈ seed, x < 256) (hX : ∀ k ∈ X, k < w.heap.size) (hG : St (zcG gt 2) w X) : Ct Tryz.prog 7 [.int .i64 kd, .int .i64 id, .agg (ca [.key seed]), .agg (ca [.key sec])] X w (zaH true) [] [] := by
 refine vFn (k0 := 0) (rs := [.tmp 8]) (svs := [zaG .i64 kd, zaG .i64 id, .a (.agg [.key seed]), .a (.agg [.key sec])]) (R0 := [.c (zcG gt 2)]) (hnQ []) Tryz.ntmps7 Tryz.func7 rfl rfl rfl rfl rfl zap (by kernel_rfl) hX (fun r hr => by rcases List.mem_singleton.1 hr with rfl; exact hG) ?_
 conv => whnf
 refine zah (sv := zaH true) (rs := []) (Rs := []) rfl rfl rfl (by kernel_rfl) (fun h X w H => znP H.xk (H.fact 0 rfl)) rfl rfl rfl ?_
 conv => whnf
 refine zah (sv := .tup [zi7 noM 0, .s (.p (.v (.int .i64 1)))]) (rs := [.gone, .gone, .gone, .gone, .gone]) (Rs := znI noM 0) rfl rfl rfl (by kernel_rfl) (fun h X w H => zDA hmb hk32 hkb H.xk (H.fact 0 rfl)) rfl rfl rfl ?_
 rw [zrj] at hmb
 conv => whnf
 refine vIf (fun c1 => ?_) fun c1 => ?_
 ·conv => whnf
  refine vIf (fun c2 => ?_) fun c2 => ?_
  ·conv => whnf
   exact zan rfl
  ·have e2 : kd = 2 := bne_eq_false_iff_eq.1 c2
   conv => whnf
   refine vIf (fun c3 => ?_) fun c3 => ?_
   ·conv => whnf
    exact zan rfl
   ·have e3 : ¬ id < 0 := of_decide_eq_false c3
    conv => whnf
    refine vIf (fun c4 => ?_) fun c4 => ?_
    ·conv => whnf
     exact zan rfl
    ·have e4 : ¬ id > 1048576 := of_decide_eq_false c4
     exfalso
     rw [decide_eq_true (.inr e2), decide_eq_true ⟨by omega, by omega⟩] at hmb
     cases hmb
 ·have e1 : kd = 1 := bne_eq_false_iff_eq.1 c1
  conv => whnf
  refine vIf (fun c3 => ?_) fun c3 => ?_
  ·conv => whnf
   exact zan rfl
  ·have e3 : ¬ id < 0 := of_decide_eq_false c3
   conv => whnf
   refine vIf (fun c4 => ?_) fun c4 => ?_
   ·conv => whnf
    exact zan rfl
   ·have e4 : ¬ id > 1048576 := of_decide_eq_false c4
    exfalso
    rw [decide_eq_true (.inl e1), decide_eq_true ⟨by omega, by omega⟩] at hmb
    cases hmb
theorem zjq {kd : Int} {n : Nat} (hmb : zeo kd [(n : Int)] [] = true) (hn : n ≤ 1048576) (hk32 : seed.length = 32) (hkb : ∀ x ∈ seed, x < 256) (hs32 : sec.length = 32) (hsb : ∀ x ∈ sec, x < 256) (hX : ∀ k ∈ X, k < w.heap.size) (hG : St (zcG gt 2) w X) : Ct Tryz.prog 7 [.int .i64 kd, .int .i64 n, .agg (ca [.key seed]), .agg (ca [.key sec])] X w (zaH true) [] [] := by
 refine vFn (k0 := 0) (rs := [.tmp 8]) (svs := [zaG .i64 kd, zaG .i64 n, .a (.agg [.key seed]), .a (.agg [.key sec])]) (R0 := [.c (zcG gt 2)]) (hnQ []) Tryz.ntmps7 Tryz.func7 rfl rfl rfl rfl rfl zap (by kernel_rfl) hX (fun r hr => by rcases List.mem_singleton.1 hr with rfl; exact hG) ?_
 have hA : Alone gt kd n (zn2 gt kd n seed) := zsd hmb
 obtain ⟨x, hx⟩ : ∃ x, zn2 gt kd n seed = x := ⟨_, rfl⟩
 rw [hx] at hA
 have her : x.err = 0 := by rw [Mem.err, if_pos hA.ok]
 have hself := znU x
 conv => whnf
 refine zah (sv := zaH true) (rs := []) (Rs := []) rfl rfl rfl (by kernel_rfl) (fun h X w H => znP H.xk (H.fact 0 rfl)) rfl rfl rfl ?_
 conv => whnf
 refine zah (sv := .tup [zi7 x 0, .s (.p (.v (.int .i64 0)))]) (rs := [.gone, .gone, .gone, .gone, .gone]) (Rs := znI x 0) rfl rfl rfl (by kernel_rfl) (fun h X w H => by
  have := zpf (gt := gt) hmb (zfa _) hn hk32 hkb H.xk (H.fact 0 rfl)
  rw [hx] at this
  exact this) rfl rfl rfl ?_
 conv => whnf
 refine zah (sv := .tup [zi7 x 0, .s (.p (.v (.int .i64 0)))]) (rs := [.gone, .gone, .gone, .gone, .gone]) (Rs := znI x 0) rfl rfl rfl (by kernel_rfl) (fun h X w H => by
  have := zpf (gt := gt) hmb (zfa _) hn hk32 hkb H.xk (H.fact 5 rfl)
  rw [hx] at this
  exact this) rfl rfl rfl ?_
 conv => whnf
 clear hx hmb hk32 hkb
 by_cases hz : zaX sec = zaX []
 ·refine zah (sv := .tup [.agg [zdE 0, zdE 0, .key []], zi7 noM 0, .s (.p (.v (.int .i64 1)))]) (rs := [.gone, .gone, .gone, .gone, .gone]) (Rs := znI noM 0) rfl rfl rfl (by kernel_rfl) (fun h X w H => zsa (x := x) (q1 := h.r 2) (q2 := h.r 3) (q3 := h.r 4) (q4 := h.r 5) (q5 := h.r 6) H.xk (.inr hz) hA.good hA.small ⟨H.fact 5 rfl, H.fact 6 rfl, H.fact 7 rfl, H.fact 8 rfl, H.fact 9 rfl⟩ (H.fact 10 rfl)) rfl rfl rfl ?_
  conv => whnf
  refine zah (sv := zaH true) (rs := []) (Rs := []) rfl rfl rfl (by kernel_rfl) (fun h X w H => by
   have := zgQ x x (q1 := h.r 2) (q2 := h.r 3) (q3 := h.r 4) (q4 := h.r 5) (q5 := h.r 6) (p1 := h.r 8) (p2 := h.r 9) (p3 := h.r 10) (p4 := h.r 11) (p5 := h.r 12) H.xk ⟨H.fact 10 rfl, H.fact 11 rfl, H.fact 12 rfl, H.fact 13 rfl, H.fact 14 rfl⟩ ⟨H.fact 5 rfl, H.fact 6 rfl, H.fact 7 rfl, H.fact 8 rfl, H.fact 9 rfl⟩
   rw [hself] at this
   exact this) rfl rfl rfl ?_
  conv => whnf
  refine zah (sv := zaG .i64 0) (rs := []) (Rs := []) rfl rfl rfl (by kernel_rfl) (fun h X w H => by
   have := zdX (x := x) (q1 := h.r 2) (q2 := h.r 3) (q3 := h.r 4) (q4 := h.r 5) (q5 := h.r 6) H.xk hA.good hA.small.secrets ⟨H.fact 10 rfl, H.fact 11 rfl, H.fact 12 rfl, H.fact 13 rfl, H.fact 14 rfl⟩
   rw [her] at this
   exact this) rfl rfl rfl ?_
  conv => whnf
  refine zah (sv := zaH true) (rs := []) (Rs := []) rfl rfl rfl (by kernel_rfl) (fun h X w H => by
   have := zri (x := x) (q1 := h.r 2) (q2 := h.r 3) (q3 := h.r 4) (q4 := h.r 5) (q5 := h.r 6) H.xk hA.good hA.small.secrets hA.keys hA.way ⟨H.fact 10 rfl, H.fact 11 rfl, H.fact 12 rfl, H.fact 13 rfl, H.fact 14 rfl⟩ (H.fact 15 rfl)
   rw [hA.knows] at this
   exact this) rfl rfl rfl ?_
  conv => whnf
  refine vIf (fun hc => ?_) fun hc => ?_
  ·have : (((x.e.n : Nat) : Int) != 0) = true := hc
   rw [hA.n0] at this
   cases this
  conv => whnf
  refine vIf (fun hc => ?_) fun hc => ?_
  ·have : (((x.chains.length : Nat) : Int) != 1) = true := hc
   rw [hA.one] at this
   cases this
  conv => whnf
  refine vIf (fun hc => ?_) fun hc => ?_
  ·conv => whnf
   exact zan rfl
  ·exact absurd hz (of_decide_eq_false hc)
 ·obtain ⟨ps, hps⟩ : ∃ ps, ps = zdk gt sec := ⟨_, rfl⟩
  refine zah (sv := .tup [.agg [zdE 3, zdE x.id, .key ps], zi7 { x with ahead := sec } 0, .s (.p (.v (.int .i64 0)))]) (rs := zyg x) (Rs := zEM x) rfl rfl rfl (by kernel_rfl) (fun h X w H => by
   have := zpi (x := x) (gt := gt) (q1 := h.r 2) (q2 := h.r 3) (q3 := h.r 4) (q4 := h.r 5) (q5 := h.r 6) H.xk hA.ok hz hs32 hsb hA.good hA.small ⟨H.fact 5 rfl, H.fact 6 rfl, H.fact 7 rfl, H.fact 8 rfl, H.fact 9 rfl⟩ (H.fact 10 rfl)
   rw [← hps] at this
   exact this) rfl rfl rfl ?_
  conv => whnf
  refine zah (sv := zaH true) (rs := []) (Rs := []) rfl rfl rfl (by kernel_rfl) (fun h X w H => by
   have := zgQ x x (q1 := h.r 2) (q2 := h.r 3) (q3 := h.r 4) (q4 := h.r 5) (q5 := h.r 6) (p1 := h.r 8) (p2 := h.r 9) (p3 := h.r 10) (p4 := h.r 11) (p5 := h.r 12) H.xk ⟨H.fact 10 rfl, H.fact 11 rfl, H.fact 12 rfl, H.fact 13 rfl, H.fact 14 rfl⟩ ⟨H.fact 5 rfl, H.fact 6 rfl, H.fact 7 rfl, H.fact 8 rfl, H.fact 9 rfl⟩
   rw [hself] at this
   exact this) rfl rfl rfl ?_
  conv => whnf
  refine zah (sv := zaG .i64 0) (rs := []) (Rs := []) rfl rfl rfl (by kernel_rfl) (fun h X w H => by
   have := zdX (x := x) (q1 := h.r 2) (q2 := h.r 3) (q3 := h.r 4) (q4 := h.r 5) (q5 := h.r 6) H.xk hA.good hA.small.secrets ⟨H.fact 10 rfl, H.fact 11 rfl, H.fact 12 rfl, H.fact 13 rfl, H.fact 14 rfl⟩
   rw [her] at this
   exact this) rfl rfl rfl ?_
  conv => whnf
  refine zah (sv := zaH true) (rs := []) (Rs := []) rfl rfl rfl (by kernel_rfl) (fun h X w H => by
   have := zri (x := x) (q1 := h.r 2) (q2 := h.r 3) (q3 := h.r 4) (q4 := h.r 5) (q5 := h.r 6) H.xk hA.good hA.small.secrets hA.keys hA.way ⟨H.fact 10 rfl, H.fact 11 rfl, H.fact 12 rfl, H.fact 13 rfl, H.fact 14 rfl⟩ (H.fact 15 rfl)
   rw [hA.knows] at this
   exact this) rfl rfl rfl ?_
  conv => whnf
  refine vIf (fun hc => ?_) fun hc => ?_
  ·have : (((x.e.n : Nat) : Int) != 0) = true := hc
   rw [hA.n0] at this
   cases this
  conv => whnf
  refine vIf (fun hc => ?_) fun hc => ?_
  ·have : (((x.chains.length : Nat) : Int) != 1) = true := hc
   rw [hA.one] at this
   cases this
  conv => whnf
  refine vIf (fun hc => ?_) fun hc => ?_
  ·exact absurd (of_decide_eq_true hc) hz
  conv => whnf
  refine zaY 24 [] (by kernel_rfl) ?_
  conv => whnf
  refine vIf (fun hc => ?_) fun hc => ?_
  ·have : (x.id != (n : Int)) = true := hc
   rw [hA.id] at this
   simp at this
  conv => whnf
  refine zaT (zae (sv := .a (.agg [.key ps])) (rs := []) (Rs := []) rfl rfl rfl (by kernel_rfl) rfl fun h X w H => by
   have := ze9 (gt := gt) hs32 hsb H.xk (H.fact 15 rfl)
   rw [← hps] at this
   exact this) ?_
  conv => whnf
  refine vIf (fun hc => ?_) fun hc => ?_
  ·have : (!decide (zaX ps = zaX ps)) = true := hc
   simp at this
  conv => whnf
  refine vIf (fun hc => ?_) fun hc => ?_
  ·have : (!decide (zaX sec = zaX sec)) = true := hc
   simp at this
  conv => whnf
  refine za8 (ziu (T := zaz) 14 rfl (.head _) rfl (ziu (T := zbU) 17 rfl (.tail _ (.tail _ (.tail _ (.tail _ (.head _))))) rfl (zaF (sv := zaH true) (rs := []) (Rs := []) (zae (sv := zaH true) (rs := []) (Rs := []) rfl rfl rfl (by kernel_rfl) rfl fun h X w H => ?_) rfl rfl))) ?_
  ·have := zgQ x x (q1 := h.r 2) (q2 := h.r 3) (q3 := h.r 4) (q4 := h.r 5) (q5 := h.r 6) (p1 := h.r 14) (p2 := h.r 15) (p3 := h.r 16) (p4 := h.r 17) (p5 := h.r 18) H.xk ⟨H.fact 12 rfl, H.fact 13 rfl, H.fact 14 rfl, H.fact 15 rfl, H.fact 16 rfl⟩ ⟨H.fact 1 rfl, H.fact 3 rfl, H.fact 4 rfl, H.fact 0 rfl, H.fact 6 rfl⟩
   rw [hself] at this
   exact this
  conv => whnf
  exact zan rfl
theorem zjr {kd id : Int} (hk32 : seed.length = 32) (hkb : ∀ x ∈ seed, x < 256) (hs32 : sec.length = 32) (hsb : ∀ x ∈ sec, x < 256) (hX : ∀ k ∈ X, k < w.heap.size) (hG : St (zcG gt 2) w X) : Calls Tryz.prog 7 #[.int .i64 kd, .int .i64 id, .agg (ca [.key seed]), .agg (ca [.key sec])] w fun e w' => e = .returned (.bool true) ∧ Sep X [] w w' [] [] := by
 cases hmb : zeo kd [id] [] with
 | false => exact Calls.mono (zmc hmb hk32 hkb hX hG) fun e w' ⟨_, he, hS⟩ => ⟨he, hS⟩
 | true =>
  have h2 := hmb
  rw [zrj] at h2
  have h3 : 0 ≤ id ∧ id ≤ 1048576 := by
   have := (Bool.and_eq_true _ _ ▸ h2).2
   exact of_decide_eq_true this
  obtain ⟨n, rfl⟩ : ∃ n : Nat, id = n := ⟨id.toNat, by omega⟩
  exact Calls.mono (zjq hmb (by omega) hk32 hkb hs32 hsb hX hG) fun e w' ⟨_, he, hS⟩ => ⟨he, hS⟩
end
end
end Go.Proofs.YtcmmpiaogfnmoaaGreatDoor
