/- The walks of layer 5: a number of 128 bits, and a product. -/
import Derived.Test.YthgjhipfgdlbnaaFeS
import Derived.Lib.Mul64
import Derived.Laws.Externs
namespace Go.Proofs.Ythgjhipfgdlbnaa
set_option linter.unusedSimpArgs false
set_option linter.unusedVariables false
open Go.RowKit

namespace M64
theorem maskN (a : Nat) (ha : a < 18446744073709551616) : bits .and .u64 (a : Int) 4294967295 = ((a % 4294967296 : Nat) : Int) := by
  have h := bits_and_u64_nat a 4294967295 ha (by omega)
  have e : a &&& 4294967295 = a % 4294967296 := Nat.and_two_pow_sub_one_eq_mod a 32
  rw [e] at h
  exact h
theorem divN (a : Nat) : (a : Int) / 4294967296 = ((a / 4294967296 : Nat) : Int) := by omega
theorem mulN (a b : Nat) : (a : Int) * (b : Int) = ((a * b : Nat) : Int) := (Int.natCast_mul a b).symm
theorem addN (a b : Nat) : (a : Int) + (b : Int) = ((a + b : Nat) : Int) := (Int.natCast_add a b).symm
theorem wrapN (a : Nat) (ha : a < 18446744073709551616) : IntKind.u64.wrap (a : Int) = (a : Int) := by rw [IntKind.wrap_u64]; omega
theorem wrapM (a : Nat) : IntKind.u64.wrap (a : Int) = ((a % 18446744073709551616 : Nat) : Int) := by rw [IntKind.wrap_u64]; omega
end M64

set_option maxHeartbeats 1000000 in
theorem Mul64_any (x y : Nat) (hx : x < 18446744073709551616) (hy : y < 18446744073709551616) (w : World) :
    Calls Try.prog 49 #[.int .u64 x, .int .u64 y] w fun e w' => e = .returned (.tuple #[.int .u64 ((x * y / 18446744073709551616 : Nat) : Int), .int .u64 ((x * y % 18446744073709551616 : Nat) : Int)]) ∧ w = w' := by
  obtain ⟨bd, bt, bw, hhi⟩ := Lib.mul64_hi x y hx hy
  have ba := Lib.half_mul_le (a := x / 4294967296) (b := y / 4294967296) (by omega) (by omega)
  have bb := Lib.half_mul_le (a := x / 4294967296) (b := y % 4294967296) (by omega) (by omega)
  have bc := Lib.half_mul_le (a := x % 4294967296) (b := y / 4294967296) (by omega) (by omega)
  have ba' : x / 4294967296 * (y / 4294967296) < 18446744073709551616 := by omega
  have bb' : x / 4294967296 * (y % 4294967296) < 18446744073709551616 := by omega
  have bc' : x % 4294967296 * (y / 4294967296) < 18446744073709551616 := by omega
  have bh1 : x / 4294967296 * (y / 4294967296) + (x / 4294967296 * (y % 4294967296) + x % 4294967296 * (y % 4294967296) / 4294967296) / 4294967296 < 18446744073709551616 := by omega
  have bh : x / 4294967296 * (y / 4294967296) + (x / 4294967296 * (y % 4294967296) + x % 4294967296 * (y % 4294967296) / 4294967296) / 4294967296 + ((x / 4294967296 * (y % 4294967296) + x % 4294967296 * (y % 4294967296) / 4294967296) % 4294967296 + x % 4294967296 * (y / 4294967296)) / 4294967296 < 18446744073709551616 := by omega
  go_enter Try.func49, Try.ntmps49
  go_wp2
  simp only [M64.maskN x hx, M64.maskN y hy, M64.divN, M64.mulN, M64.addN, M64.wrapN _ bd, M64.wrapN _ bb', M64.wrapN _ bt, M64.maskN _ bt, M64.wrapN _ bc', M64.wrapN _ bw, M64.wrapN _ ba', M64.wrapN _ bh1, M64.wrapN _ bh, M64.wrapM (x * y)]
  rw [hhi]
  go_ret2
  exact ⟨rfl, rfl⟩

theorem run_Add64 (x y : Nat) (w : World) :
    (callFunc 50 #[.int .u64 (x : Int), .int .u64 (y : Int), .int .u64 0]).run Try.prog w =
      .ok (.value (.tuple #[.int .u64 (((x + y) % 18446744073709551616 : Nat) : Int), .int .u64 (((x + y) / 18446744073709551616 : Nat) : Int)])) w := by
  rw [run_callFunc_extern Try.func50 (by kernel_rfl) (by kernel_rfl) (by kernel_rfl) (e := add64Entry) (by kernel_rfl), run_add64 x y 0 (by omega) (by omega) (by omega) (by omega)]
  simp only [Result.andThen]
  congr 5 <;> omega

theorem RTWide : RowT Try.prog 74 2 := ⟨_, Try.underlying74, rfl, by kernel_rfl⟩
theorem ZTWide : ZeroT Try.prog 74 .u64 2 := by unfold ZeroT; kernel_rfl
/-- A number of 128 bits, in two parts. -/
def hlN (v : Nat) (i : Nat) : Nat := if i = 0 then v / 18446744073709551616 else v % 18446744073709551616
theorem built_wide (x y : Int) : Try.prog.built 74 [(0, .int .u64 x), (1, .int .u64 y)] = some (arr .u64 2 fun i => if i = 0 then x else y) := by kernel_rfl

set_option maxHeartbeats 1000000 in
theorem plus_any (v a b : Nat) (ha : a < 18446744073709551616) (hb : b < 18446744073709551616) (hv : v + a * b < 340282366920938463463374607431768211456) (w : World) :
    Calls Try.prog 48 #[.agg (arr .u64 2 fun i => ((hlN v i : Nat) : Int)), .int .u64 a, .int .u64 b] w fun e w' => e = .returned (.agg (arr .u64 2 fun i => ((hlN (v + a * b) i : Nat) : Int))) ∧ Below w.heap.size w w' := by
  obtain ⟨p, hp⟩ : ∃ p, p = a * b := ⟨_, rfl⟩
  rw [← hp] at hv ⊢
  have Hp := Lib.hid hp
  clear hp
  go_enter Try.func48, Try.ntmps48
  obtain ⟨g0, g1, hz, hb0⟩ := alloc2 w (.cells (arr .u64 2 fun i => ((hlN v i : Nat) : Int)) 74) (.cells (arr .u64 2 fun _ => 0) 74)
  go_upto_region 1 with (refine wpList_alloc_arr rfl rfl ZTWide ?_)
  generalize (w.alloc (.cells (arr .u64 2 fun i => ((hlN v i : Nat) : Int)) 74)).alloc (.cells (arr .u64 2 fun _ => 0) 74) = wa at *
  (try simp only [Act.put, List.setIfInBounds_toArray, List.set_cons_zero, List.set_cons_succ])
  go_wp2_with (go_at_call 49; fail)
  refine (Mul64_any a b ha hb _).mono ?_
  rintro e w1 ⟨rfl, rfl⟩
  rw [← Hp.out]
  obtain ⟨ph, hph⟩ : ∃ x, x = p / 18446744073709551616 := ⟨_, rfl⟩
  obtain ⟨pl, hpl⟩ : ∃ x, x = p % 18446744073709551616 := ⟨_, rfl⟩
  obtain ⟨vh, hvh⟩ : ∃ x, x = v / 18446744073709551616 := ⟨_, rfl⟩
  obtain ⟨vl, hvl⟩ : ∃ x, x = v % 18446744073709551616 := ⟨_, rfl⟩
  obtain ⟨so, hso⟩ : ∃ x, x = (pl + vl) / 18446744073709551616 := ⟨_, rfl⟩
  obtain ⟨sl, hsl⟩ : ∃ x, x = (pl + vl) % 18446744073709551616 := ⟨_, rfl⟩
  have c0 : wa.cell? ⟨w.heap.size, 0, none⟩ = some (.int .u64 (vh : Int)) := by rw [hvh]; exact cell_arr g0 0 (by omega)
  have c1 : wa.cell? ⟨w.heap.size, 1, none⟩ = some (.int .u64 (vl : Int)) := by rw [hvl]; exact cell_arr g0 1 (by omega)
  have ra := run_Add64 pl vl
  rw [← hso, ← hsl] at ra
  rw [← hph, ← hpl]
  have e0 : sl = (v + p) % 18446744073709551616 := by omega
  have e1 : vh + ph + so = (v + p) / 18446744073709551616 := by omega
  have b1 : vh + ph + so < 18446744073709551616 := by omega
  have E0 := Lib.hid e0
  have E1 := Lib.hid e1
  clear e0 e1 hph hpl hvh hvl hso hsl
  go_wp2_with (first | (refine wpList_built rfl rfl (by simp [Act.eval, Act.put]) (built_wide _ _) ?_) | (refine wpList_store_arr (f' := fun i => if i = 0 then ((vh : Int) + ph + so) else (sl : Int)) rfl rfl rfl rfl RTWide g1 ?_))
  refine bodyPost_ret (results_arr rfl rfl RTWide (row_self g1)) rfl ⟨?_, row_below hb0 (by omega) _⟩
  rw [arr_ext (f := fun i => ((hlN (v + p) i : Nat) : Int)) (g := fun i => if i = 0 then ((vh : Int) + ph + so) else (sl : Int)) (fun i _ => by
    unfold hlN
    split
    · rw [← E1.out]; omega
    · rw [← E0.out])]
end Go.Proofs.Ythgjhipfgdlbnaa
