/- The walks of layer 16: whether a commit may be; whether it is small enough. -/
import Derived.Test.YtfbfkfdkigpkgaaAof
namespace Go.Proofs.Ytfbfkfdkigpkgaa
set_option linter.unusedSimpArgs false
set_option linter.unusedVariables false
open Go.RowKit
attribute [local irreducible] beL beK

theorem ZVStep : ZeroV Try.prog 71 3 #[.int .i64 0, .int .i64 0, .slice none 0 0] := ⟨by kernel_rfl, rfl⟩
def chk (c : Com) : Int := if OkCom c then 0 else 1
theorem chk_yes {c : Com} (h : OkCom c) : chk c = 0 := if_pos h
theorem chk_no {c : Com} (h : ¬ OkCom c) : chk c = 1 := if_neg h

set_option maxRecDepth 100000 in
set_option maxHeartbeats 4000000 in
theorem CheckCommit_any (c : Com) (tg : Nat → Nat) (B : Nat) (w : World) (h : ComOk w B c) (hB : B ≤ w.heap.size) (hf : MidC c) :
    Calls Try.prog 22 #[.agg (arrV 70 (comV c tg))] w fun e w' => e = .returned (.int .i64 (chk c)) ∧ Below w.heap.size w w' := by
  have H0 := Lib.hid h
  have HF := Lib.hid hf
  have hsn := hf.sn
  have hkn := hf.kn
  have hbn := hf.bn
  have hpn := hf.pn
  clear h hf
  go_enter Try.func22, Try.ntmps22
  have g0 := heap_alloc_new w (.cells (arrV 70 (comV c tg)) 42)
  have hb : Below w.heap.size w (w.alloc (.cells (arrV 70 (comV c tg)) 42)) := (Below.refl _ _).alloc (Nat.le_refl _) _
  have hz : (w.alloc (.cells (arrV 70 (comV c tg)) 42)).heap.size = w.heap.size + 1 := by simp
  have c35 := cell_arrV g0 35 (by omega)
  replace c35 : _ = some (Value.slice c.SA c.sn c.sc) := c35
  go_wp2
  go_loopg [3, 9] c.sn (fun r s x wr => ∃ i : Nat, i + r = c.sn ∧ x = .int .i64 i ∧ s = .int .i64 (sends c i : Nat) ∧ wr.heap[w.heap.size]? = some (.cells (arrV 70 (comV c tg)) 42 (0, 0)) ∧ Below w.heap.size w wr)
  case atStart => exact ⟨0, by omega, rfl, rfl, g0, hb⟩
  case round =>
    clear g0 hb c35 hz
    obtain ⟨i, hi, rfl, rfl, g0, hb⟩ := hrel
    have HI := Lib.hid hi
    clear hi
    by_cases hlt : i < c.sn
    · obtain ⟨ad, hA, hab, hc⟩ := (H0.out.steps.below' hb hB).cell hlt
      have hs1 := sends_le c HF.out i (by omega)
      have hd1 := HF.out.dn i hlt
      generalize hsc : sends c i = sc at hs1
      have HSC := Lib.hid hsc
      have HA := Lib.hid hA
      clear hsc hA
      go_wp2_with (first | (refine wpList_elA HA.out rfl rfl Try.underlying38 (sz := 3) (by kernel_rfl) rfl rfl hlt ?_) | (refine wpList_load_at (n := 3) rfl rfl RTStep rfl hc ?_) | (refine wpList_newV rfl rfl rfl rfl ZVStep RTStep rfl rfl (fun _ _ => stepV_one _ _ _ _ _ _) ?_; intro w2 g2 b2 hs2; have d2 := cell_arrV g2 2 (by omega); replace d2 : _ = some (Value.slice (c.DA i) (c.dn i) (c.dc i)) := d2))
      go_roundg (gk - 1)
      case measure => have := HI.out; omega
      case rel =>
        have hI := HI.out
        have hl := lt_of_block g0
        refine ⟨i + 1, by omega, by go_num, ?_, keep_below b2 hl g0, hb.trans (b2.mono hb.size)⟩
        show Value.int .i64 _ = Value.int .i64 ((sends c i + c.dn i : Nat) : Int)
        rw [HSC.out]
        go_num
    · obtain rfl : i = c.sn := by have := HI.out; omega
      have hs1 := sends_le c HF.out _ (Nat.le_refl _)
      have hBw : B ≤ wr.heap.size := Nat.le_trans hB hb.size
      have hok := H0.out.below hb hB
      have c0 := cell_arrV g0 0 (by omega)
      replace c0 : _ = some (Value.int .u64 (c.ep : Int)) := c0
      have c1 := cell_arrV g0 1 (by omega)
      replace c1 : _ = some (Value.int .i64 c.by_) := c1
      have c2 := cell_arrV g0 2 (by omega)
      replace c2 : _ = some (Value.slice c.PA c.pn c.pc) := c2
      have c35 := cell_arrV g0 35 (by omega)
      replace c35 : _ = some (Value.slice c.SA c.sn c.sc) := c35
      have c36 := cell_arrV g0 36 (by omega)
      replace c36 : _ = some (Value.slice c.KA c.kn c.kc) := c36
      have c37 := cell_arrV g0 37 (by omega)
      replace c37 : _ = some (Value.slice c.BA c.bn c.bc) := c37
      by_cases k1 : c.ep ≤ 1099511627776
      · by_cases k2 : 0 ≤ c.by_ ∧ c.by_ ≤ 1048576
        · by_cases k3 : c.pn ≤ 100
          · by_cases k4 : ∀ i, i < c.pn → OkProp (c.kind i) (c.id i) (c.ppt i)
            · by_cases k5 : c.sn ≤ 4000
              · by_cases k6 : c.kn = c.sn
                · by_cases k7 : ∀ i, i < c.sn → OkStep (c.node i) (c.frm i) (c.dn i) (c.dv i)
                  · by_cases k8 : sends c c.sn = c.bn
                    · by_cases k9 : ∀ i, i < c.bn → c.xn i ≤ 1000
                      · have E : chk c = 0 := chk_yes ⟨⟨k1, k2⟩, ⟨k3, k4⟩, ⟨k5, k6, k7⟩, k8, k9⟩
                        have HE := Lib.hid E
                        clear E
                        have k1n : (c.ep : Int) ≤ 1099511627776 := by omega
                        have Hk2 := Lib.hid (decide_eq_true k2)
                        have Hk4 := Lib.hid (decide_eq_true k4)
                        have Hk6 := Lib.hid k6
                        have k6n : decide ((c.kn : Int) = c.sn) = true := decide_eq_true (by omega)
                        have Hk7 := Lib.hid (decide_eq_true k7)
                        have Hk8 := Lib.hid k8
                        have k8n : decide (((sends c c.sn : Nat) : Int) = c.bn) = true := decide_eq_true (by omega)
                        have Hk9 := Lib.hid (decide_eq_true k9)
                        clear k1 k2 k4 k7 k9
                        go_wp2_with (first | (go_at_call 46; (with_reducible refine (within_any _ _ _).mono ?_); rintro e w2 ⟨rfl, rfl⟩; rw [Hk2.out]) | (go_at_call 47; (with_reducible refine (ContainsProp c.PA c.pn c.pc c.kind c.id c.ppt B _ hok.props hBw (by omega)).mono ?_); rintro e w4 ⟨rfl, b4⟩; rw [Hk4.out]; replace g0 := keep_below b4 (lt_of_block g0) g0; replace hok := hok.below b4 hBw; replace hb := hb.trans (b4.mono hb.size); replace hBw := Nat.le_trans hBw b4.size; replace c0 : w4.cell? ⟨w.heap.size, 0, none⟩ = some (Value.int .u64 (c.ep : Int)) := cell_arrV g0 0 (by omega); replace c1 : w4.cell? ⟨w.heap.size, 1, none⟩ = some (Value.int .i64 c.by_) := cell_arrV g0 1 (by omega); replace c2 : w4.cell? ⟨w.heap.size, 2, none⟩ = some (Value.slice c.PA c.pn c.pc) := cell_arrV g0 2 (by omega); replace c35 : w4.cell? ⟨w.heap.size, 35, none⟩ = some (Value.slice c.SA c.sn c.sc) := cell_arrV g0 35 (by omega); replace c36 : w4.cell? ⟨w.heap.size, 36, none⟩ = some (Value.slice c.KA c.kn c.kc) := cell_arrV g0 36 (by omega); replace c37 : w4.cell? ⟨w.heap.size, 37, none⟩ = some (Value.slice c.BA c.bn c.bc) := cell_arrV g0 37 (by omega)) | (go_at_call 49; (with_reducible refine (ContainsStep c.SA c.sn c.sc c.node c.frm c.DA c.dn c.dc c.dv B _ hok.steps hok.sends hBw (by omega)).mono ?_); rintro e w7 ⟨rfl, b7⟩; rw [Hk7.out]; replace g0 := keep_below b7 (lt_of_block g0) g0; replace hok := hok.below b7 hBw; replace hb := hb.trans (b7.mono hb.size); replace hBw := Nat.le_trans hBw b7.size; replace c0 : w7.cell? ⟨w.heap.size, 0, none⟩ = some (Value.int .u64 (c.ep : Int)) := cell_arrV g0 0 (by omega); replace c1 : w7.cell? ⟨w.heap.size, 1, none⟩ = some (Value.int .i64 c.by_) := cell_arrV g0 1 (by omega); replace c2 : w7.cell? ⟨w.heap.size, 2, none⟩ = some (Value.slice c.PA c.pn c.pc) := cell_arrV g0 2 (by omega); replace c35 : w7.cell? ⟨w.heap.size, 35, none⟩ = some (Value.slice c.SA c.sn c.sc) := cell_arrV g0 35 (by omega); replace c36 : w7.cell? ⟨w.heap.size, 36, none⟩ = some (Value.slice c.KA c.kn c.kc) := cell_arrV g0 36 (by omega); replace c37 : w7.cell? ⟨w.heap.size, 37, none⟩ = some (Value.slice c.BA c.bn c.bc) := cell_arrV g0 37 (by omega)) | (go_at_call 51; (with_reducible refine (ContainsBox c.BA c.bn c.bc c.XA c.xn c.xc B _ hok.boxes hBw (by omega)).mono ?_); rintro e w9 ⟨rfl, b9⟩; rw [Hk9.out]; replace g0 := keep_below b9 (lt_of_block g0) g0; replace hok := hok.below b9 hBw; replace hb := hb.trans (b9.mono hb.size); replace hBw := Nat.le_trans hBw b9.size; replace c0 : w9.cell? ⟨w.heap.size, 0, none⟩ = some (Value.int .u64 (c.ep : Int)) := cell_arrV g0 0 (by omega); replace c1 : w9.cell? ⟨w.heap.size, 1, none⟩ = some (Value.int .i64 c.by_) := cell_arrV g0 1 (by omega); replace c2 : w9.cell? ⟨w.heap.size, 2, none⟩ = some (Value.slice c.PA c.pn c.pc) := cell_arrV g0 2 (by omega); replace c35 : w9.cell? ⟨w.heap.size, 35, none⟩ = some (Value.slice c.SA c.sn c.sc) := cell_arrV g0 35 (by omega); replace c36 : w9.cell? ⟨w.heap.size, 36, none⟩ = some (Value.slice c.KA c.kn c.kc) := cell_arrV g0 36 (by omega); replace c37 : w9.cell? ⟨w.heap.size, 37, none⟩ = some (Value.slice c.BA c.bn c.bc) := cell_arrV g0 37 (by omega)))
                        go_ret
                        refine ⟨?_, hb⟩
                        rw [HE.out]
                        rfl
                      · have E : chk c = 1 := chk_no fun h => k9 h.2.2.2.2
                        have HE := Lib.hid E
                        clear E
                        have k1n : (c.ep : Int) ≤ 1099511627776 := by omega
                        have Hk2 := Lib.hid (decide_eq_true k2)
                        have Hk4 := Lib.hid (decide_eq_true k4)
                        have Hk6 := Lib.hid k6
                        have k6n : decide ((c.kn : Int) = c.sn) = true := decide_eq_true (by omega)
                        have Hk7 := Lib.hid (decide_eq_true k7)
                        have Hk8 := Lib.hid k8
                        have k8n : decide (((sends c c.sn : Nat) : Int) = c.bn) = true := decide_eq_true (by omega)
                        have Hk9 := Lib.hid (decide_eq_false k9)
                        clear k1 k2 k4 k7 k9
                        go_wp2_with (first | (go_at_call 46; (with_reducible refine (within_any _ _ _).mono ?_); rintro e w2 ⟨rfl, rfl⟩; rw [Hk2.out]) | (go_at_call 47; (with_reducible refine (ContainsProp c.PA c.pn c.pc c.kind c.id c.ppt B _ hok.props hBw (by omega)).mono ?_); rintro e w4 ⟨rfl, b4⟩; rw [Hk4.out]; replace g0 := keep_below b4 (lt_of_block g0) g0; replace hok := hok.below b4 hBw; replace hb := hb.trans (b4.mono hb.size); replace hBw := Nat.le_trans hBw b4.size; replace c0 : w4.cell? ⟨w.heap.size, 0, none⟩ = some (Value.int .u64 (c.ep : Int)) := cell_arrV g0 0 (by omega); replace c1 : w4.cell? ⟨w.heap.size, 1, none⟩ = some (Value.int .i64 c.by_) := cell_arrV g0 1 (by omega); replace c2 : w4.cell? ⟨w.heap.size, 2, none⟩ = some (Value.slice c.PA c.pn c.pc) := cell_arrV g0 2 (by omega); replace c35 : w4.cell? ⟨w.heap.size, 35, none⟩ = some (Value.slice c.SA c.sn c.sc) := cell_arrV g0 35 (by omega); replace c36 : w4.cell? ⟨w.heap.size, 36, none⟩ = some (Value.slice c.KA c.kn c.kc) := cell_arrV g0 36 (by omega); replace c37 : w4.cell? ⟨w.heap.size, 37, none⟩ = some (Value.slice c.BA c.bn c.bc) := cell_arrV g0 37 (by omega)) | (go_at_call 49; (with_reducible refine (ContainsStep c.SA c.sn c.sc c.node c.frm c.DA c.dn c.dc c.dv B _ hok.steps hok.sends hBw (by omega)).mono ?_); rintro e w7 ⟨rfl, b7⟩; rw [Hk7.out]; replace g0 := keep_below b7 (lt_of_block g0) g0; replace hok := hok.below b7 hBw; replace hb := hb.trans (b7.mono hb.size); replace hBw := Nat.le_trans hBw b7.size; replace c0 : w7.cell? ⟨w.heap.size, 0, none⟩ = some (Value.int .u64 (c.ep : Int)) := cell_arrV g0 0 (by omega); replace c1 : w7.cell? ⟨w.heap.size, 1, none⟩ = some (Value.int .i64 c.by_) := cell_arrV g0 1 (by omega); replace c2 : w7.cell? ⟨w.heap.size, 2, none⟩ = some (Value.slice c.PA c.pn c.pc) := cell_arrV g0 2 (by omega); replace c35 : w7.cell? ⟨w.heap.size, 35, none⟩ = some (Value.slice c.SA c.sn c.sc) := cell_arrV g0 35 (by omega); replace c36 : w7.cell? ⟨w.heap.size, 36, none⟩ = some (Value.slice c.KA c.kn c.kc) := cell_arrV g0 36 (by omega); replace c37 : w7.cell? ⟨w.heap.size, 37, none⟩ = some (Value.slice c.BA c.bn c.bc) := cell_arrV g0 37 (by omega)) | (go_at_call 51; (with_reducible refine (ContainsBox c.BA c.bn c.bc c.XA c.xn c.xc B _ hok.boxes hBw (by omega)).mono ?_); rintro e w9 ⟨rfl, b9⟩; rw [Hk9.out]; replace g0 := keep_below b9 (lt_of_block g0) g0; replace hok := hok.below b9 hBw; replace hb := hb.trans (b9.mono hb.size); replace hBw := Nat.le_trans hBw b9.size; replace c0 : w9.cell? ⟨w.heap.size, 0, none⟩ = some (Value.int .u64 (c.ep : Int)) := cell_arrV g0 0 (by omega); replace c1 : w9.cell? ⟨w.heap.size, 1, none⟩ = some (Value.int .i64 c.by_) := cell_arrV g0 1 (by omega); replace c2 : w9.cell? ⟨w.heap.size, 2, none⟩ = some (Value.slice c.PA c.pn c.pc) := cell_arrV g0 2 (by omega); replace c35 : w9.cell? ⟨w.heap.size, 35, none⟩ = some (Value.slice c.SA c.sn c.sc) := cell_arrV g0 35 (by omega); replace c36 : w9.cell? ⟨w.heap.size, 36, none⟩ = some (Value.slice c.KA c.kn c.kc) := cell_arrV g0 36 (by omega); replace c37 : w9.cell? ⟨w.heap.size, 37, none⟩ = some (Value.slice c.BA c.bn c.bc) := cell_arrV g0 37 (by omega)))
                        go_ret
                        refine ⟨?_, hb⟩
                        rw [HE.out]
                        rfl
                    · have E : chk c = 1 := chk_no fun h => k8 h.2.2.2.1
                      have HE := Lib.hid E
                      clear E
                      have k1n : (c.ep : Int) ≤ 1099511627776 := by omega
                      have Hk2 := Lib.hid (decide_eq_true k2)
                      have Hk4 := Lib.hid (decide_eq_true k4)
                      have Hk6 := Lib.hid k6
                      have k6n : decide ((c.kn : Int) = c.sn) = true := decide_eq_true (by omega)
                      have Hk7 := Lib.hid (decide_eq_true k7)
                      have Hk8 := Lib.hid k8
                      have k8n : decide (((sends c c.sn : Nat) : Int) = c.bn) = false := decide_eq_false (by omega)
                      clear k1 k2 k4 k7
                      go_wp2_with (first | (go_at_call 46; (with_reducible refine (within_any _ _ _).mono ?_); rintro e w2 ⟨rfl, rfl⟩; rw [Hk2.out]) | (go_at_call 47; (with_reducible refine (ContainsProp c.PA c.pn c.pc c.kind c.id c.ppt B _ hok.props hBw (by omega)).mono ?_); rintro e w4 ⟨rfl, b4⟩; rw [Hk4.out]; replace g0 := keep_below b4 (lt_of_block g0) g0; replace hok := hok.below b4 hBw; replace hb := hb.trans (b4.mono hb.size); replace hBw := Nat.le_trans hBw b4.size; replace c0 : w4.cell? ⟨w.heap.size, 0, none⟩ = some (Value.int .u64 (c.ep : Int)) := cell_arrV g0 0 (by omega); replace c1 : w4.cell? ⟨w.heap.size, 1, none⟩ = some (Value.int .i64 c.by_) := cell_arrV g0 1 (by omega); replace c2 : w4.cell? ⟨w.heap.size, 2, none⟩ = some (Value.slice c.PA c.pn c.pc) := cell_arrV g0 2 (by omega); replace c35 : w4.cell? ⟨w.heap.size, 35, none⟩ = some (Value.slice c.SA c.sn c.sc) := cell_arrV g0 35 (by omega); replace c36 : w4.cell? ⟨w.heap.size, 36, none⟩ = some (Value.slice c.KA c.kn c.kc) := cell_arrV g0 36 (by omega); replace c37 : w4.cell? ⟨w.heap.size, 37, none⟩ = some (Value.slice c.BA c.bn c.bc) := cell_arrV g0 37 (by omega)) | (go_at_call 49; (with_reducible refine (ContainsStep c.SA c.sn c.sc c.node c.frm c.DA c.dn c.dc c.dv B _ hok.steps hok.sends hBw (by omega)).mono ?_); rintro e w7 ⟨rfl, b7⟩; rw [Hk7.out]; replace g0 := keep_below b7 (lt_of_block g0) g0; replace hok := hok.below b7 hBw; replace hb := hb.trans (b7.mono hb.size); replace hBw := Nat.le_trans hBw b7.size; replace c0 : w7.cell? ⟨w.heap.size, 0, none⟩ = some (Value.int .u64 (c.ep : Int)) := cell_arrV g0 0 (by omega); replace c1 : w7.cell? ⟨w.heap.size, 1, none⟩ = some (Value.int .i64 c.by_) := cell_arrV g0 1 (by omega); replace c2 : w7.cell? ⟨w.heap.size, 2, none⟩ = some (Value.slice c.PA c.pn c.pc) := cell_arrV g0 2 (by omega); replace c35 : w7.cell? ⟨w.heap.size, 35, none⟩ = some (Value.slice c.SA c.sn c.sc) := cell_arrV g0 35 (by omega); replace c36 : w7.cell? ⟨w.heap.size, 36, none⟩ = some (Value.slice c.KA c.kn c.kc) := cell_arrV g0 36 (by omega); replace c37 : w7.cell? ⟨w.heap.size, 37, none⟩ = some (Value.slice c.BA c.bn c.bc) := cell_arrV g0 37 (by omega)))
                      go_ret
                      refine ⟨?_, hb⟩
                      rw [HE.out]
                      rfl
                  · have E : chk c = 1 := chk_no fun h => k7 h.2.2.1.2.2
                    have HE := Lib.hid E
                    clear E
                    have k1n : (c.ep : Int) ≤ 1099511627776 := by omega
                    have Hk2 := Lib.hid (decide_eq_true k2)
                    have Hk4 := Lib.hid (decide_eq_true k4)
                    have Hk6 := Lib.hid k6
                    have k6n : decide ((c.kn : Int) = c.sn) = true := decide_eq_true (by omega)
                    have Hk7 := Lib.hid (decide_eq_false k7)
                    clear k1 k2 k4 k7
                    go_wp2_with (first | (go_at_call 46; (with_reducible refine (within_any _ _ _).mono ?_); rintro e w2 ⟨rfl, rfl⟩; rw [Hk2.out]) | (go_at_call 47; (with_reducible refine (ContainsProp c.PA c.pn c.pc c.kind c.id c.ppt B _ hok.props hBw (by omega)).mono ?_); rintro e w4 ⟨rfl, b4⟩; rw [Hk4.out]; replace g0 := keep_below b4 (lt_of_block g0) g0; replace hok := hok.below b4 hBw; replace hb := hb.trans (b4.mono hb.size); replace hBw := Nat.le_trans hBw b4.size; replace c0 : w4.cell? ⟨w.heap.size, 0, none⟩ = some (Value.int .u64 (c.ep : Int)) := cell_arrV g0 0 (by omega); replace c1 : w4.cell? ⟨w.heap.size, 1, none⟩ = some (Value.int .i64 c.by_) := cell_arrV g0 1 (by omega); replace c2 : w4.cell? ⟨w.heap.size, 2, none⟩ = some (Value.slice c.PA c.pn c.pc) := cell_arrV g0 2 (by omega); replace c35 : w4.cell? ⟨w.heap.size, 35, none⟩ = some (Value.slice c.SA c.sn c.sc) := cell_arrV g0 35 (by omega); replace c36 : w4.cell? ⟨w.heap.size, 36, none⟩ = some (Value.slice c.KA c.kn c.kc) := cell_arrV g0 36 (by omega); replace c37 : w4.cell? ⟨w.heap.size, 37, none⟩ = some (Value.slice c.BA c.bn c.bc) := cell_arrV g0 37 (by omega)) | (go_at_call 49; (with_reducible refine (ContainsStep c.SA c.sn c.sc c.node c.frm c.DA c.dn c.dc c.dv B _ hok.steps hok.sends hBw (by omega)).mono ?_); rintro e w7 ⟨rfl, b7⟩; rw [Hk7.out]; replace g0 := keep_below b7 (lt_of_block g0) g0; replace hok := hok.below b7 hBw; replace hb := hb.trans (b7.mono hb.size); replace hBw := Nat.le_trans hBw b7.size; replace c0 : w7.cell? ⟨w.heap.size, 0, none⟩ = some (Value.int .u64 (c.ep : Int)) := cell_arrV g0 0 (by omega); replace c1 : w7.cell? ⟨w.heap.size, 1, none⟩ = some (Value.int .i64 c.by_) := cell_arrV g0 1 (by omega); replace c2 : w7.cell? ⟨w.heap.size, 2, none⟩ = some (Value.slice c.PA c.pn c.pc) := cell_arrV g0 2 (by omega); replace c35 : w7.cell? ⟨w.heap.size, 35, none⟩ = some (Value.slice c.SA c.sn c.sc) := cell_arrV g0 35 (by omega); replace c36 : w7.cell? ⟨w.heap.size, 36, none⟩ = some (Value.slice c.KA c.kn c.kc) := cell_arrV g0 36 (by omega); replace c37 : w7.cell? ⟨w.heap.size, 37, none⟩ = some (Value.slice c.BA c.bn c.bc) := cell_arrV g0 37 (by omega)))
                    go_ret
                    refine ⟨?_, hb⟩
                    rw [HE.out]
                    rfl
                · have E : chk c = 1 := chk_no fun h => k6 h.2.2.1.2.1
                  have HE := Lib.hid E
                  clear E
                  have k1n : (c.ep : Int) ≤ 1099511627776 := by omega
                  have Hk2 := Lib.hid (decide_eq_true k2)
                  have Hk4 := Lib.hid (decide_eq_true k4)
                  have Hk6 := Lib.hid k6
                  have k6n : decide ((c.kn : Int) = c.sn) = false := decide_eq_false (by omega)
                  clear k1 k2 k4
                  go_wp2_with (first | (go_at_call 46; (with_reducible refine (within_any _ _ _).mono ?_); rintro e w2 ⟨rfl, rfl⟩; rw [Hk2.out]) | (go_at_call 47; (with_reducible refine (ContainsProp c.PA c.pn c.pc c.kind c.id c.ppt B _ hok.props hBw (by omega)).mono ?_); rintro e w4 ⟨rfl, b4⟩; rw [Hk4.out]; replace g0 := keep_below b4 (lt_of_block g0) g0; replace hok := hok.below b4 hBw; replace hb := hb.trans (b4.mono hb.size); replace hBw := Nat.le_trans hBw b4.size; replace c0 : w4.cell? ⟨w.heap.size, 0, none⟩ = some (Value.int .u64 (c.ep : Int)) := cell_arrV g0 0 (by omega); replace c1 : w4.cell? ⟨w.heap.size, 1, none⟩ = some (Value.int .i64 c.by_) := cell_arrV g0 1 (by omega); replace c2 : w4.cell? ⟨w.heap.size, 2, none⟩ = some (Value.slice c.PA c.pn c.pc) := cell_arrV g0 2 (by omega); replace c35 : w4.cell? ⟨w.heap.size, 35, none⟩ = some (Value.slice c.SA c.sn c.sc) := cell_arrV g0 35 (by omega); replace c36 : w4.cell? ⟨w.heap.size, 36, none⟩ = some (Value.slice c.KA c.kn c.kc) := cell_arrV g0 36 (by omega); replace c37 : w4.cell? ⟨w.heap.size, 37, none⟩ = some (Value.slice c.BA c.bn c.bc) := cell_arrV g0 37 (by omega)))
                  go_ret
                  refine ⟨?_, hb⟩
                  rw [HE.out]
                  rfl
              · have E : chk c = 1 := chk_no fun h => k5 h.2.2.1.1
                have HE := Lib.hid E
                clear E
                have k1n : (c.ep : Int) ≤ 1099511627776 := by omega
                have Hk2 := Lib.hid (decide_eq_true k2)
                have Hk4 := Lib.hid (decide_eq_true k4)
                clear k1 k2 k4
                go_wp2_with (first | (go_at_call 46; (with_reducible refine (within_any _ _ _).mono ?_); rintro e w2 ⟨rfl, rfl⟩; rw [Hk2.out]) | (go_at_call 47; (with_reducible refine (ContainsProp c.PA c.pn c.pc c.kind c.id c.ppt B _ hok.props hBw (by omega)).mono ?_); rintro e w4 ⟨rfl, b4⟩; rw [Hk4.out]; replace g0 := keep_below b4 (lt_of_block g0) g0; replace hok := hok.below b4 hBw; replace hb := hb.trans (b4.mono hb.size); replace hBw := Nat.le_trans hBw b4.size; replace c0 : w4.cell? ⟨w.heap.size, 0, none⟩ = some (Value.int .u64 (c.ep : Int)) := cell_arrV g0 0 (by omega); replace c1 : w4.cell? ⟨w.heap.size, 1, none⟩ = some (Value.int .i64 c.by_) := cell_arrV g0 1 (by omega); replace c2 : w4.cell? ⟨w.heap.size, 2, none⟩ = some (Value.slice c.PA c.pn c.pc) := cell_arrV g0 2 (by omega); replace c35 : w4.cell? ⟨w.heap.size, 35, none⟩ = some (Value.slice c.SA c.sn c.sc) := cell_arrV g0 35 (by omega); replace c36 : w4.cell? ⟨w.heap.size, 36, none⟩ = some (Value.slice c.KA c.kn c.kc) := cell_arrV g0 36 (by omega); replace c37 : w4.cell? ⟨w.heap.size, 37, none⟩ = some (Value.slice c.BA c.bn c.bc) := cell_arrV g0 37 (by omega)))
                go_ret
                refine ⟨?_, hb⟩
                rw [HE.out]
                rfl
            · have E : chk c = 1 := chk_no fun h => k4 h.2.1.2
              have HE := Lib.hid E
              clear E
              have k1n : (c.ep : Int) ≤ 1099511627776 := by omega
              have Hk2 := Lib.hid (decide_eq_true k2)
              have Hk4 := Lib.hid (decide_eq_false k4)
              clear k1 k2 k4
              go_wp2_with (first | (go_at_call 46; (with_reducible refine (within_any _ _ _).mono ?_); rintro e w2 ⟨rfl, rfl⟩; rw [Hk2.out]) | (go_at_call 47; (with_reducible refine (ContainsProp c.PA c.pn c.pc c.kind c.id c.ppt B _ hok.props hBw (by omega)).mono ?_); rintro e w4 ⟨rfl, b4⟩; rw [Hk4.out]; replace g0 := keep_below b4 (lt_of_block g0) g0; replace hok := hok.below b4 hBw; replace hb := hb.trans (b4.mono hb.size); replace hBw := Nat.le_trans hBw b4.size; replace c0 : w4.cell? ⟨w.heap.size, 0, none⟩ = some (Value.int .u64 (c.ep : Int)) := cell_arrV g0 0 (by omega); replace c1 : w4.cell? ⟨w.heap.size, 1, none⟩ = some (Value.int .i64 c.by_) := cell_arrV g0 1 (by omega); replace c2 : w4.cell? ⟨w.heap.size, 2, none⟩ = some (Value.slice c.PA c.pn c.pc) := cell_arrV g0 2 (by omega); replace c35 : w4.cell? ⟨w.heap.size, 35, none⟩ = some (Value.slice c.SA c.sn c.sc) := cell_arrV g0 35 (by omega); replace c36 : w4.cell? ⟨w.heap.size, 36, none⟩ = some (Value.slice c.KA c.kn c.kc) := cell_arrV g0 36 (by omega); replace c37 : w4.cell? ⟨w.heap.size, 37, none⟩ = some (Value.slice c.BA c.bn c.bc) := cell_arrV g0 37 (by omega)))
              go_ret
              refine ⟨?_, hb⟩
              rw [HE.out]
              rfl
          · have E : chk c = 1 := chk_no fun h => k3 h.2.1.1
            have HE := Lib.hid E
            clear E
            have k1n : (c.ep : Int) ≤ 1099511627776 := by omega
            have Hk2 := Lib.hid (decide_eq_true k2)
            clear k1 k2
            go_wp2_with (first | (go_at_call 46; (with_reducible refine (within_any _ _ _).mono ?_); rintro e w2 ⟨rfl, rfl⟩; rw [Hk2.out]))
            go_ret
            refine ⟨?_, hb⟩
            rw [HE.out]
            rfl
        · have E : chk c = 1 := chk_no fun h => k2 h.1.2
          have HE := Lib.hid E
          clear E
          have k1n : (c.ep : Int) ≤ 1099511627776 := by omega
          have Hk2 := Lib.hid (decide_eq_false k2)
          clear k1 k2
          go_wp2_with (first | (go_at_call 46; (with_reducible refine (within_any _ _ _).mono ?_); rintro e w2 ⟨rfl, rfl⟩; rw [Hk2.out]))
          go_ret
          refine ⟨?_, hb⟩
          rw [HE.out]
          rfl
      · have E : chk c = 1 := chk_no fun h => k1 h.1.1
        have HE := Lib.hid E
        clear E
        have k1n : 1099511627776 < (c.ep : Int) := by omega
        clear k1
        go_wp2
        go_ret
        refine ⟨?_, hb⟩
        rw [HE.out]
        rfl
end Go.Proofs.Ytfbfkfdkigpkgaa
