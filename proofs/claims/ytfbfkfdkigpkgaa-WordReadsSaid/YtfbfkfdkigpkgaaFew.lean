/- The walks of layer 16: whether a commit is small enough to be played. -/
import Derived.Test.YtfbfkfdkigpkgaaChk
namespace Go.Proofs.Ytfbfkfdkigpkgaa
set_option linter.unusedSimpArgs false
set_option linter.unusedVariables false
open Go.RowKit
attribute [local irreducible] beL beK

/-- A bool that tells something, if it is true. -/
def TellP (p : Prop) (w : World) (R : World → World → Prop) (e : Ending) (w' : World) : Prop := (∃ b : Bool, e = .returned (.bool b) ∧ (b = true → p)) ∧ R w w'
set_option maxRecDepth 100000 in
set_option maxHeartbeats 4000000 in
theorem Few1_any (A : Option Addr) (n c : Nat) (XA : Nat → Option Addr) (xn xc : Nat → Nat) (B : Nat) (w : World) (h : Els w B A n 1 fun i _ => .slice (XA i) (xn i) (xc i)) (hn : (n : Int) ≤ 9223372036854775807) :
    Calls Try.prog 44 #[.slice A n c] w (TellP (n ≤ 200) w Eq) := by
  have H0 := Lib.hid h
  clear h
  go_enter Try.func44, Try.ntmps44
  go_wp2
  go_loopg [3, 8] n (fun r s x wr => ∃ (i : Nat) (z : Int), i + r = n ∧ x = .int .i64 i ∧ s = .int .i64 z ∧ w = wr)
  case atStart => exact ⟨0, 0, by omega, rfl, rfl, rfl⟩
  case round =>
    obtain ⟨i, z, hi, rfl, rfl, rfl⟩ := hrel
    have HI := Lib.hid hi
    clear hi
    by_cases hlt : i < n
    · obtain ⟨ad, rfl, hab, hc⟩ := H0.out.cell hlt
      replace hc : w.cell? (ad.add (i * 1)) = some (.slice (XA i) (xn i) (xc i)) := by have := hc 0 (by omega); rwa [addr_add_zero] at this
      go_wp2_with (first | (refine wpList_el rfl rfl Try.underlying40 (sz := 1) (by kernel_rfl) rfl rfl hlt ?_) | (refine wpList_load1 rfl rfl Try.underlying22 rfl rfl hc ?_))
      all_goals
        go_roundg (gk - 1)
        case measure => have := HI.out; omega
        case rel =>
          have hI := HI.out
          exact ⟨i + 1, _, by omega, by go_num, rfl, rfl⟩
    · obtain rfl : i = n := by have := HI.out; omega
      by_cases h2 : i ≤ 200
      · go_wp2
        go_ret
        exact ⟨⟨_, rfl, fun _ => h2⟩, rfl⟩
      · go_wp2
        go_ret
        exact ⟨⟨_, rfl, fun h => by cases h⟩, rfl⟩

set_option maxRecDepth 100000 in
set_option maxHeartbeats 4000000 in
theorem Few_any (c : Com) (tg : Nat → Nat) (B : Nat) (w : World) (h : ComOk w B c) (hB : B ≤ w.heap.size) (hs : (c.sn : Int) ≤ 9223372036854775807) (hb1 : (c.bn : Int) ≤ 9223372036854775807) :
    Calls Try.prog 17 #[.agg (arrV 70 (comV c tg))] w (TellP (FewC c) w (Below w.heap.size)) := by
  have H0 := Lib.hid h
  clear h
  go_enter Try.func17, Try.ntmps17
  have g0 := heap_alloc_new w (.cells (arrV 70 (comV c tg)) 42)
  have hb : Below w.heap.size w (w.alloc (.cells (arrV 70 (comV c tg)) 42)) := (Below.refl _ _).alloc (Nat.le_refl _) _
  have c35 := cell_arrV g0 35 (by omega)
  replace c35 : _ = some (Value.slice c.SA c.sn c.sc) := c35
  go_wp2
  go_loopg [8] c.sn (fun r x wr => ∃ i : Nat, i + r = c.sn ∧ x = .int .i64 i ∧ (∀ j, j < i → c.dn j ≤ 200) ∧ wr.heap[w.heap.size]? = some (.cells (arrV 70 (comV c tg)) 42 (0, 0)) ∧ Below w.heap.size w wr)
  case atStart => exact ⟨0, by omega, rfl, (fun j hj => absurd hj (by omega)), g0, hb⟩
  case round =>
    clear g0 hb c35
    obtain ⟨i, hi, rfl, hd, g0, hb⟩ := hrel
    have HI := Lib.hid hi
    have HD := Lib.hid hd
    clear hi hd
    by_cases hlt : i < c.sn
    · obtain ⟨ad, hA, hab, hc⟩ := (H0.out.steps.below' hb hB).cell hlt
      have HA := Lib.hid hA
      clear hA
      by_cases h2 : c.dn i ≤ 200
      · go_wp2_with (first | (refine wpList_elA HA.out rfl rfl Try.underlying38 (sz := 3) (by kernel_rfl) rfl rfl hlt ?_) | (refine wpList_load_at (n := 3) rfl rfl RTStep rfl hc ?_) | (refine wpList_newV rfl rfl rfl rfl ZVStep RTStep rfl rfl (fun _ _ => stepV_one _ _ _ _ _ _) ?_; intro w2 g2 b2 hs2; have d2 := cell_arrV g2 2 (by omega); replace d2 : _ = some (Value.slice (c.DA i) (c.dn i) (c.dc i)) := d2))
        go_roundg (gk - 1)
        case measure => have := HI.out; omega
        case rel =>
          have hI := HI.out
          exact ⟨i + 1, by omega, by go_num, all_succ HD.out h2, keep_below b2 (lt_of_block g0) g0, hb.trans (b2.mono hb.size)⟩
      · go_wp2_with (first | (refine wpList_elA HA.out rfl rfl Try.underlying38 (sz := 3) (by kernel_rfl) rfl rfl hlt ?_) | (refine wpList_load_at (n := 3) rfl rfl RTStep rfl hc ?_) | (refine wpList_newV rfl rfl rfl rfl ZVStep RTStep rfl rfl (fun _ _ => stepV_one _ _ _ _ _ _) ?_; intro w2 g2 b2 hs2; have d2 := cell_arrV g2 2 (by omega); replace d2 : _ = some (Value.slice (c.DA i) (c.dn i) (c.dc i)) := d2))
        go_ret
        exact ⟨⟨_, rfl, fun h => by cases h⟩, hb.trans (b2.mono hb.size)⟩
    · obtain rfl : i = c.sn := by have := HI.out; omega
      have c2 := cell_arrV g0 2 (by omega)
      replace c2 : _ = some (Value.slice c.PA c.pn c.pc) := c2
      have c35 := cell_arrV g0 35 (by omega)
      replace c35 : _ = some (Value.slice c.SA c.sn c.sc) := c35
      have c36 := cell_arrV g0 36 (by omega)
      replace c36 : _ = some (Value.slice c.KA c.kn c.kc) := c36
      have c37 := cell_arrV g0 37 (by omega)
      replace c37 : _ = some (Value.slice c.BA c.bn c.bc) := c37
      have hbx := H0.out.boxes.below' hb hB
      by_cases h3 : c.pn ≤ 150
      · by_cases h4 : c.sn ≤ 300
        · by_cases h5 : c.kn ≤ 300
          · go_wp2_with (go_at_call 44; (with_reducible refine (Few1_any c.BA c.bn c.bc c.XA c.xn c.xc B _ hbx hb1).mono ?_); rintro e w2 ⟨⟨q, rfl, hq⟩, rfl⟩)
            go_ret
            refine ⟨⟨q, ?_, fun h => ⟨HD.out, h3, h4, h5, hq h⟩⟩, hb⟩
            rfl
          · go_wp2
            go_ret
            exact ⟨⟨_, rfl, fun h => by cases h⟩, hb⟩
        · go_wp2
          go_ret
          exact ⟨⟨_, rfl, fun h => by cases h⟩, hb⟩
      · go_wp2
        go_ret
        exact ⟨⟨_, rfl, fun h => by cases h⟩, hb⟩
end Go.Proofs.Ytfbfkfdkigpkgaa
