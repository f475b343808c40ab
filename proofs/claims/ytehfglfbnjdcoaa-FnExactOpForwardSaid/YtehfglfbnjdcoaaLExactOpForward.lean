/-
  PROVED HERE: the law 'laws.FnExactOpForward' returns true and leaves its arguments as they were, for every input, without a condition.
-/
import Derived.Test.YtehfglfbnjdcoaaRows
import Derived.Test.YtehfglfbnjdcoaaFrame
import Derived.Test.YtehfglfbnjdcoaaOpenR
import Derived.Test.YtehfglfbnjdcoaaOpenM
import Derived.Test.YtehfglfbnjdcoaaOpen
import Derived.Test.YtehfglfbnjdcoaaOpF
import Derived.WalkKit
import Derived.Deep.RegionHeld3
import Derived.ProofKit
import Derived.OpenShut
namespace Go.Proofs.Ytehfglfbnjdcoaa.fnExactOpForward
open Go.ChangeShapes Go.WideShapes Go.ChangeAt Go.RowKit
set_option maxRecDepth 100000
open Go.ChangeMaps (open_string)
set_option linter.unusedVariables false
theorem cells_int : Try.prog.cellsOf 3 = 1 := by kernel_rfl
set_option maxHeartbeats 4000000 in
set_option maxRecDepth 100000 in
theorem walk (w : World) {r0_0 r0_1 r0_2 : Int} {A0 : Option Addr} {n0 c0 : Nat} {xs0 : List Int} (hR0 : RI w w.heap.size A0 n0 c0 xs0) (hN0 : (n0 : Int) ≤ 9223372036854775807) {A1 : Option Addr} {n1 c1 : Nat} {xs1 : List Int} (hR1 : RI w w.heap.size A1 n1 c1 xs1) : Calls Try.prog 4 #[.agg #[.int .i64 r0_0, .int .i64 r0_1, .int .i64 r0_2, .slice A0 n0 c0], .slice A1 n1 c1] w fun e w' => e = .returned (.bool true) ∧ Below w.heap.size w w' := by
  by_cases hL1 : (1048576 : Int) < (n1 : Int)
  · go_enter Try.func4, Try.ntmps4
    go_wp2_with fail
    go_ret
    exact ⟨rfl, by first | exact Below.refl _ _ | exact (Below.refl _ _).alloc (Nat.le_refl _) _ | exact ((Below.refl _ _).alloc (Nat.le_refl _) _).alloc (by simp) _⟩
  obtain ⟨q0, hq0⟩ : ∃ q, szF n0 1048576 = q := ⟨_, rfl⟩
  have hc0 := szF_case n0 1048576
  rw [hq0] at hc0
  have HQ0 := hide hq0
  clear hq0
  rcases hc0 with rfl | ⟨hq0, hn0, hk0⟩
  · go_enter Try.func4, Try.ntmps4
    go_wp2_with fail
    obtain ⟨w1, hw0⟩ : ∃ W, W = w.alloc (.cells #[.int .i64 r0_0, .int .i64 r0_1, .int .i64 r0_2, .slice A0 n0 c0] 48) := ⟨_, rfl⟩
    have hb : Below w.heap.size w w1 := hw0 ▸ (Below.refl _ _).alloc (Nat.le_refl _) _
    have hz_p0 : w1.heap.size = w.heap.size + 1 := by rw [hw0]; simp
    have c_0 : w1.cell? ⟨w.heap.size, 0, none⟩ = some (.int .i64 r0_0) := by rw [hw0]; simp
    have c_1 : w1.cell? ⟨w.heap.size, 1, none⟩ = some (.int .i64 r0_1) := by rw [hw0]; simp
    have c_2 : w1.cell? ⟨w.heap.size, 2, none⟩ = some (.int .i64 r0_2) := by rw [hw0]; simp
    have c_3 : w1.cell? ⟨w.heap.size, 3, none⟩ = some (.slice A0 n0 c0) := by rw [hw0]; simp
    have hB_w1 : Below w.heap.size w w1 := hb
    have hs_w1 : w.heap.size ≤ w1.heap.size := hb.size
    clear hb
    have b_p0_0 := c_0
    clear c_0
    have b_p0_1 := c_1
    clear c_1
    have b_p0_2 := c_2
    clear c_2
    have b_p0_3 := c_3
    clear c_3
    rw [← hw0]
    clear hw0
    have HZ := laws_szOp r0_0 r0_1 r0_2 A0 n0 c0 1048576 w1 (by omega) (by omega) hN0
    rw [HQ0.out] at HZ
    refine HZ.mono ?_
    clear HZ
    rintro e w2 ⟨rfl, hb⟩
    have hB_w2 : Below w.heap.size w w2 := below2 hB_w1 hb
    have hs_w2 : w1.heap.size ≤ w2.heap.size := hb.size
    replace b_p0_0 := cellB hb b_p0_0
    replace b_p0_1 := cellB hb b_p0_1
    replace b_p0_2 := cellB hb b_p0_2
    replace b_p0_3 := cellB hb b_p0_3
    clear hb
    go_wp2_with fail
    go_ret
    exact ⟨rfl, hB_w2⟩
  have hx0 : xs0.length ≤ 1048576 := by have := hR0.1; omega
  have hx1 : xs1.length ≤ 1048576 := by have := hR1.1; omega
  have hlen : (fw ⟨r0_0, r0_1, r0_2, xs0⟩ xs1).length ≤ 1048576 := by have := fw_len ⟨r0_0, r0_1, r0_2, xs0⟩ xs1; omega
  go_enter Try.func4, Try.ntmps4
  go_wp2_with fail
  obtain ⟨w1, hw0⟩ : ∃ W, W = w.alloc (.cells #[.int .i64 r0_0, .int .i64 r0_1, .int .i64 r0_2, .slice A0 n0 c0] 48) := ⟨_, rfl⟩
  have hb : Below w.heap.size w w1 := hw0 ▸ (Below.refl _ _).alloc (Nat.le_refl _) _
  have hz_p0 : w1.heap.size = w.heap.size + 1 := by rw [hw0]; simp
  have c_0 : w1.cell? ⟨w.heap.size, 0, none⟩ = some (.int .i64 r0_0) := by rw [hw0]; simp
  have c_1 : w1.cell? ⟨w.heap.size, 1, none⟩ = some (.int .i64 r0_1) := by rw [hw0]; simp
  have c_2 : w1.cell? ⟨w.heap.size, 2, none⟩ = some (.int .i64 r0_2) := by rw [hw0]; simp
  have c_3 : w1.cell? ⟨w.heap.size, 3, none⟩ = some (.slice A0 n0 c0) := by rw [hw0]; simp
  have hB_w1 : Below w.heap.size w w1 := hb
  have hs_w1 : w.heap.size ≤ w1.heap.size := hb.size
  clear hb
  have b_p0_0 := c_0
  clear c_0
  have b_p0_1 := c_1
  clear c_1
  have b_p0_2 := c_2
  clear c_2
  have b_p0_3 := c_3
  clear c_3
  rw [← hw0]
  clear hw0
  have HZ := laws_szOp r0_0 r0_1 r0_2 A0 n0 c0 1048576 w1 (by omega) (by omega) hN0
  rw [HQ0.out] at HZ
  refine HZ.mono ?_
  clear HZ
  rintro e w2 ⟨rfl, hb⟩
  have hB_w2 : Below w.heap.size w w2 := below2 hB_w1 hb
  have hs_w2 : w1.heap.size ≤ w2.heap.size := hb.size
  replace b_p0_0 := cellB hb b_p0_0
  replace b_p0_1 := cellB hb b_p0_1
  replace b_p0_2 := cellB hb b_p0_2
  replace b_p0_3 := cellB hb b_p0_3
  clear hb
  go_wp2_with fail
  refine (laws_toOp r0_0 r0_1 r0_2 w2 (hR0.below (hB_w2)) (hB_w2).size hx0).mono ?_
  rintro e w3 ⟨A_t0, n_t0, c_t0, rfl, h_t0, hb⟩
  have hh : OwI w3 (w2.heap.size) (w3.heap.size) (.slice A_t0 n_t0 c_t0) (xs0) := h_t0
  clear h_t0
  have hB_w3 : Below w.heap.size w w3 := below2 hB_w2 hb
  have hs_w3 : w2.heap.size ≤ w3.heap.size := hb.size
  replace b_p0_0 := cellB hb b_p0_0
  replace b_p0_1 := cellB hb b_p0_1
  replace b_p0_2 := cellB hb b_p0_2
  replace b_p0_3 := cellB hb b_p0_3
  clear hb
  have h_t0 := hh
  clear hh
  go_wp2_with fail
  refine (toI w3 (hR1.below (hB_w3)) (hB_w3).size hx1).mono ?_
  rintro e w4 ⟨A_t1, n_t1, c_t1, rfl, h_t1, hb⟩
  have hh : OwI w4 (w3.heap.size) (w4.heap.size) (.slice A_t1 n_t1 c_t1) (xs1) := h_t1
  clear h_t1
  have hB_w4 : Below w.heap.size w w4 := below2 hB_w3 hb
  have hs_w4 : w3.heap.size ≤ w4.heap.size := hb.size
  replace h_t0 := h_t0.below hb
  replace b_p0_0 := cellB hb b_p0_0
  replace b_p0_1 := cellB hb b_p0_1
  replace b_p0_2 := cellB hb b_p0_2
  replace b_p0_3 := cellB hb b_p0_3
  clear hb
  have h_t1 := hh
  clear hh
  go_wp2_with fail
  refine (spec_OpForward r0_0 r0_1 r0_2 w4 h_t0.ri h_t1.ri (by omega) (by omega) (by have := h_t0.ri.1; omega) (by have := h_t1.ri.1; omega)).mono ?_
  rintro e w5 ⟨v_r0, rfl, hq⟩
  obtain ⟨A_r0, n_r0, c_r0, rfl, h_r0, hb⟩ := newI hq
  clear hq
  have hh_r0 : OwI w5 (w4.heap.size) (w5.heap.size) (.slice A_r0 n_r0 c_r0) (fw ⟨r0_0, r0_1, r0_2, xs0⟩ xs1) := h_r0
  clear h_r0
  have hB_w5 : Below w.heap.size w w5 := below2 hB_w4 hb
  have hs_w5 : w4.heap.size ≤ w5.heap.size := hb.size
  replace h_t0 := h_t0.below hb
  replace h_t1 := h_t1.below hb
  replace b_p0_0 := cellB hb b_p0_0
  replace b_p0_1 := cellB hb b_p0_1
  replace b_p0_2 := cellB hb b_p0_2
  replace b_p0_3 := cellB hb b_p0_3
  clear hb
  have h_r0 := hh_r0
  clear hh_r0
  clear h_t0 h_t1
  go_wp2_with fail
  refine (laws_toOp r0_0 r0_1 r0_2 w5 (hR0.below (hB_w5)) (hB_w5).size hx0).mono ?_
  rintro e w6 ⟨A_x0, n_x0, c_x0, rfl, h_x0, hb⟩
  have hh : OwI w6 (w5.heap.size) (w6.heap.size) (.slice A_x0 n_x0 c_x0) (xs0) := h_x0
  clear h_x0
  have hB_w6 : Below w.heap.size w w6 := below2 hB_w5 hb
  have hs_w6 : w5.heap.size ≤ w6.heap.size := hb.size
  replace h_r0 := h_r0.below hb
  replace b_p0_0 := cellB hb b_p0_0
  replace b_p0_1 := cellB hb b_p0_1
  replace b_p0_2 := cellB hb b_p0_2
  replace b_p0_3 := cellB hb b_p0_3
  clear hb
  have h_x0 := hh
  clear hh
  have ba_p0_0 := fun o => cellB ((Below.refl _ _).alloc (Nat.le_refl _) o) b_p0_0
  have ba_p0_1 := fun o => cellB ((Below.refl _ _).alloc (Nat.le_refl _) o) b_p0_1
  have ba_p0_2 := fun o => cellB ((Below.refl _ _).alloc (Nat.le_refl _) o) b_p0_2
  have ba_p0_3 := fun o => cellB ((Below.refl _ _).alloc (Nat.le_refl _) o) b_p0_3
  go_wp2_with fail
  clear ba_p0_0 ba_p0_1 ba_p0_2 ba_p0_3
  obtain ⟨w7, hw⟩ : ∃ W, W = w6.alloc (.cells #[.int .i64 r0_0, .int .i64 r0_1, .int .i64 r0_2, .slice A_x0 n_x0 c_x0] 52) := ⟨_, rfl⟩
  have hb : Below w6.heap.size w6 w7 := hw ▸ (Below.refl _ _).alloc (Nat.le_refl _) _
  have hz_x0 : w6.heap.size < w7.heap.size := by rw [hw]; simp
  have c_0 : w7.cell? ⟨w6.heap.size, 0, none⟩ = some (.int .i64 r0_0) := by rw [hw]; simp
  have c_1 : w7.cell? ⟨w6.heap.size, 1, none⟩ = some (.int .i64 r0_1) := by rw [hw]; simp
  have c_2 : w7.cell? ⟨w6.heap.size, 2, none⟩ = some (.int .i64 r0_2) := by rw [hw]; simp
  have c_3 : w7.cell? ⟨w6.heap.size, 3, none⟩ = some (.slice A_x0 n_x0 c_x0) := by rw [hw]; simp
  rw [← hw]
  clear hw
  have hB_w7 : Below w.heap.size w w7 := below2 hB_w6 hb
  have hs_w7 : w6.heap.size ≤ w7.heap.size := hb.size
  replace h_r0 := h_r0.below hb
  replace h_x0 := h_x0.below hb
  replace b_p0_0 := cellB hb b_p0_0
  replace b_p0_1 := cellB hb b_p0_1
  replace b_p0_2 := cellB hb b_p0_2
  replace b_p0_3 := cellB hb b_p0_3
  clear hb
  have b_x0_0 := c_0
  clear c_0
  have b_x0_1 := c_1
  clear c_1
  have b_x0_2 := c_2
  clear c_2
  have b_x0_3 := c_3
  clear c_3
  refine (toI w7 (hR1.below (hB_w7)) (hB_w7).size hx1).mono ?_
  rintro e w8 ⟨A_x1, n_x1, c_x1, rfl, h_x1, hb⟩
  have hh : OwI w8 (w7.heap.size) (w8.heap.size) (.slice A_x1 n_x1 c_x1) (xs1) := h_x1
  clear h_x1
  have hB_w8 : Below w.heap.size w w8 := below2 hB_w7 hb
  have hs_w8 : w7.heap.size ≤ w8.heap.size := hb.size
  replace h_r0 := h_r0.below hb
  replace h_x0 := h_x0.below hb
  replace b_p0_0 := cellB hb b_p0_0
  replace b_p0_1 := cellB hb b_p0_1
  replace b_p0_2 := cellB hb b_p0_2
  replace b_p0_3 := cellB hb b_p0_3
  replace b_x0_0 := cellB hb b_x0_0
  replace b_x0_1 := cellB hb b_x0_1
  replace b_x0_2 := cellB hb b_x0_2
  replace b_x0_3 := cellB hb b_x0_3
  clear hb
  have h_x1 := hh
  clear hh
  go_wp2_with fail
  refine (impl_OpForward r0_0 r0_1 r0_2 w8 h_x0.ri h_x1.ri (by omega) (by omega) (by have := h_x0.ri.1; omega) (by have := h_x1.ri.1; omega)).mono ?_
  rintro e w9 ⟨v_g0, rfl, hq⟩
  obtain ⟨A_g0, n_g0, c_g0, rfl, h_g0, hb⟩ := newI hq
  clear hq
  have hh_g0 : OwI w9 (w8.heap.size) (w9.heap.size) (.slice A_g0 n_g0 c_g0) (fw ⟨r0_0, r0_1, r0_2, xs0⟩ xs1) := h_g0
  clear h_g0
  have hB_w9 : Below w.heap.size w w9 := below2 hB_w8 hb
  have hs_w9 : w8.heap.size ≤ w9.heap.size := hb.size
  replace h_r0 := h_r0.below hb
  replace h_x0 := h_x0.below hb
  replace h_x1 := h_x1.below hb
  replace b_p0_0 := cellB hb b_p0_0
  replace b_p0_1 := cellB hb b_p0_1
  replace b_p0_2 := cellB hb b_p0_2
  replace b_p0_3 := cellB hb b_p0_3
  replace b_x0_0 := cellB hb b_x0_0
  replace b_x0_1 := cellB hb b_x0_1
  replace b_x0_2 := cellB hb b_x0_2
  replace b_x0_3 := cellB hb b_x0_3
  clear hb
  have h_g0 := hh_g0
  clear hh_g0
  go_wp2_with fail
  refine (eqI_same w9 h_g0.ri h_r0.ri hlen).mono ?_
  rintro e w10 ⟨rfl, hb⟩
  have hB_w10 : Below w.heap.size w w10 := below2 hB_w9 hb
  have hs_w10 : w9.heap.size ≤ w10.heap.size := hb.size
  replace h_r0 := h_r0.below hb
  replace h_x0 := h_x0.below hb
  replace h_x1 := h_x1.below hb
  replace h_g0 := h_g0.below hb
  replace b_p0_0 := cellB hb b_p0_0
  replace b_p0_1 := cellB hb b_p0_1
  replace b_p0_2 := cellB hb b_p0_2
  replace b_p0_3 := cellB hb b_p0_3
  replace b_x0_0 := cellB hb b_x0_0
  replace b_x0_1 := cellB hb b_x0_1
  replace b_x0_2 := cellB hb b_x0_2
  replace b_x0_3 := cellB hb b_x0_3
  clear hb
  go_wp2_with fail
  have gate0 : True := trivial
  have gate1 : True := trivial
  go_region_held3 (fun W => W.cell? ⟨w.heap.size, 0, none⟩ = some (.int .i64 r0_0) ∧ W.cell? ⟨w.heap.size, 1, none⟩ = some (.int .i64 r0_1) ∧ W.cell? ⟨w.heap.size, 2, none⟩ = some (.int .i64 r0_2) ∧ W.cell? ⟨w.heap.size, 3, none⟩ = some (.slice A0 n0 c0) ∧ W.cell? ⟨w6.heap.size, 0, none⟩ = some (.int .i64 r0_0) ∧ W.cell? ⟨w6.heap.size, 1, none⟩ = some (.int .i64 r0_1) ∧ W.cell? ⟨w6.heap.size, 2, none⟩ = some (.int .i64 r0_2) ∧ W.cell? ⟨w6.heap.size, 3, none⟩ = some (.slice A_x0 n_x0 c_x0)) (first | exact ⟨b_p0_0, b_p0_1, b_p0_2, b_p0_3, b_x0_0, b_x0_1, b_x0_2, b_x0_3⟩) (first
    | (clear gate0; go_at_call 29; refine (laws_toOp r0_0 r0_1 r0_2 w10.drew (hR0.below (hB_w10.drew)) (hB_w10.drew).size hx0).mono ?_; rintro e w11 ⟨A_y, n_y, c_y, rfl, h_y, hb⟩; have hb := undrew hb; have hh : OwI w11 (w10.heap.size) (w11.heap.size) (.slice A_y n_y c_y) (xs0) := h_y; clear h_y; have hB_w11 : Below w.heap.size w w11 := below2 hB_w10 hb; have hs_w11 : w10.heap.size ≤ w11.heap.size := hb.size; replace h_r0 := h_r0.below hb; replace h_x0 := h_x0.below hb; replace h_x1 := h_x1.below hb; replace h_g0 := h_g0.below hb; replace b_p0_0 := cellB hb b_p0_0; replace b_p0_1 := cellB hb b_p0_1; replace b_p0_2 := cellB hb b_p0_2; replace b_p0_3 := cellB hb b_p0_3; replace b_x0_0 := cellB hb b_x0_0; replace b_x0_1 := cellB hb b_x0_1; replace b_x0_2 := cellB hb b_x0_2; replace b_x0_3 := cellB hb b_x0_3; clear hb; have h_y := hh; clear hh)
    | (clear gate1; go_at_call 33; refine (laws_eqOp (r0_0) (r0_1) (r0_2) w11 h_x0.ri h_y.ri (by omega) (by omega) hx0).mono ?_; rintro e w12 ⟨rfl, hb⟩; have hB_w12 : Below w.heap.size w w12 := below2 hB_w11 hb; have hs_w12 : w11.heap.size ≤ w12.heap.size := hb.size; replace h_r0 := h_r0.below hb; replace h_x0 := h_x0.below hb; replace h_x1 := h_x1.below hb; replace h_g0 := h_g0.below hb; replace h_y := h_y.below hb; replace b_p0_0 := cellB hb b_p0_0; replace b_p0_1 := cellB hb b_p0_1; replace b_p0_2 := cellB hb b_p0_2; replace b_p0_3 := cellB hb b_p0_3; replace b_x0_0 := cellB hb b_x0_0; replace b_x0_1 := cellB hb b_x0_1; replace b_x0_2 := cellB hb b_x0_2; replace b_x0_3 := cellB hb b_x0_3; clear hb))
  clear h_y
  go_wp2_with fail
  refine (toI w12 (hR1.below (hB_w12)) (hB_w12).size hx1).mono ?_
  rintro e w13 ⟨A_y, n_y, c_y, rfl, h_y, hb⟩
  have hh : OwI w13 (w12.heap.size) (w13.heap.size) (.slice A_y n_y c_y) (xs1) := h_y
  clear h_y
  have hB_w13 : Below w.heap.size w w13 := below2 hB_w12 hb
  have hs_w13 : w12.heap.size ≤ w13.heap.size := hb.size
  replace h_r0 := h_r0.below hb
  replace h_x0 := h_x0.below hb
  replace h_x1 := h_x1.below hb
  replace h_g0 := h_g0.below hb
  replace b_p0_0 := cellB hb b_p0_0
  replace b_p0_1 := cellB hb b_p0_1
  replace b_p0_2 := cellB hb b_p0_2
  replace b_p0_3 := cellB hb b_p0_3
  replace b_x0_0 := cellB hb b_x0_0
  replace b_x0_1 := cellB hb b_x0_1
  replace b_x0_2 := cellB hb b_x0_2
  replace b_x0_3 := cellB hb b_x0_3
  clear hb
  have h_y := hh
  clear hh
  go_wp2_with fail
  refine (eqI_same w13 h_x1.ri h_y.ri hx1).mono ?_
  rintro e w14 ⟨rfl, hb⟩
  have hB_w14 : Below w.heap.size w w14 := below2 hB_w13 hb
  have hs_w14 : w13.heap.size ≤ w14.heap.size := hb.size
  replace h_r0 := h_r0.below hb
  replace h_x0 := h_x0.below hb
  replace h_x1 := h_x1.below hb
  replace h_g0 := h_g0.below hb
  replace h_y := h_y.below hb
  replace b_p0_0 := cellB hb b_p0_0
  replace b_p0_1 := cellB hb b_p0_1
  replace b_p0_2 := cellB hb b_p0_2
  replace b_p0_3 := cellB hb b_p0_3
  replace b_x0_0 := cellB hb b_x0_0
  replace b_x0_1 := cellB hb b_x0_1
  replace b_x0_2 := cellB hb b_x0_2
  replace b_x0_3 := cellB hb b_x0_3
  clear hb
  clear h_y
  go_wp2_with fail
  refine (laws_markOp (r0_0) (r0_1) (r0_2) (1) w14 h_x0 (hx0) (by omega) (by omega)).mono ?_
  rintro e w15 ⟨rfl, hm, ho⟩
  replace ho : Only (fun b => w5.heap.size ≤ b ∧ b < w6.heap.size) w14 w15 := ho.mono fun q hq => ⟨(h_x0.1.lt q hq).1, h_x0.2 q hq⟩
  have hB_w15 : Below w.heap.size w w15 := hB_w14.trans (ho.below hB_w14.size (fun q hq h3 => by have h4 : w5.heap.size ≤ q ∧ q < w6.heap.size := h3; omega))
  have hs_w15 : w14.heap.size ≤ w15.heap.size := ho.size
  replace h_r0 := h_r0.farI ho (by omega)
  replace h_x1 := h_x1.farI ho (by omega)
  replace h_g0 := h_g0.farI ho (by omega)
  replace b_p0_0 := boxfarI ho b_p0_0 (by show w.heap.size < w5.heap.size ∨ w6.heap.size ≤ w.heap.size; omega)
  replace b_p0_1 := boxfarI ho b_p0_1 (by show w.heap.size < w5.heap.size ∨ w6.heap.size ≤ w.heap.size; omega)
  replace b_p0_2 := boxfarI ho b_p0_2 (by show w.heap.size < w5.heap.size ∨ w6.heap.size ≤ w.heap.size; omega)
  replace b_p0_3 := boxfarI ho b_p0_3 (by show w.heap.size < w5.heap.size ∨ w6.heap.size ≤ w.heap.size; omega)
  replace b_x0_0 := boxfarI ho b_x0_0 (by show w6.heap.size < w5.heap.size ∨ w6.heap.size ≤ w6.heap.size; omega)
  replace b_x0_1 := boxfarI ho b_x0_1 (by show w6.heap.size < w5.heap.size ∨ w6.heap.size ≤ w6.heap.size; omega)
  replace b_x0_2 := boxfarI ho b_x0_2 (by show w6.heap.size < w5.heap.size ∨ w6.heap.size ≤ w6.heap.size; omega)
  replace b_x0_3 := boxfarI ho b_x0_3 (by show w6.heap.size < w5.heap.size ∨ w6.heap.size ≤ w6.heap.size; omega)
  clear h_x0 ho
  have h_x0 := hm
  clear hm
  go_wp2_with fail
  refine (laws_markIntS (1 + ((xs0).length : Int)) w15 h_x1 (hx1) (by omega) (by omega)).mono ?_
  rintro e w16 ⟨rfl, hm, ho⟩
  replace ho : Only (fun b => w7.heap.size ≤ b ∧ b < w8.heap.size) w15 w16 := ho.mono fun q hq => ⟨(h_x1.1.lt q hq).1, h_x1.2 q hq⟩
  have hB_w16 : Below w.heap.size w w16 := hB_w15.trans (ho.below hB_w15.size (fun q hq h3 => by have h4 : w7.heap.size ≤ q ∧ q < w8.heap.size := h3; omega))
  have hs_w16 : w15.heap.size ≤ w16.heap.size := ho.size
  replace h_r0 := h_r0.farI ho (by omega)
  replace h_x0 := h_x0.farI ho (by omega)
  replace h_g0 := h_g0.farI ho (by omega)
  replace b_p0_0 := boxfarI ho b_p0_0 (by show w.heap.size < w7.heap.size ∨ w8.heap.size ≤ w.heap.size; omega)
  replace b_p0_1 := boxfarI ho b_p0_1 (by show w.heap.size < w7.heap.size ∨ w8.heap.size ≤ w.heap.size; omega)
  replace b_p0_2 := boxfarI ho b_p0_2 (by show w.heap.size < w7.heap.size ∨ w8.heap.size ≤ w.heap.size; omega)
  replace b_p0_3 := boxfarI ho b_p0_3 (by show w.heap.size < w7.heap.size ∨ w8.heap.size ≤ w.heap.size; omega)
  replace b_x0_0 := boxfarI ho b_x0_0 (by show w6.heap.size < w7.heap.size ∨ w8.heap.size ≤ w6.heap.size; omega)
  replace b_x0_1 := boxfarI ho b_x0_1 (by show w6.heap.size < w7.heap.size ∨ w8.heap.size ≤ w6.heap.size; omega)
  replace b_x0_2 := boxfarI ho b_x0_2 (by show w6.heap.size < w7.heap.size ∨ w8.heap.size ≤ w6.heap.size; omega)
  replace b_x0_3 := boxfarI ho b_x0_3 (by show w6.heap.size < w7.heap.size ∨ w8.heap.size ≤ w6.heap.size; omega)
  clear h_x1 ho
  have h_x1 := hm
  clear hm
  clear h_x0 h_x1
  clear b_x0_0
  clear b_x0_1
  clear b_x0_2
  clear b_x0_3
  go_wp2_with fail
  refine (eqI_same w16 h_g0.ri h_r0.ri hlen).mono ?_
  rintro e w17 ⟨rfl, hb⟩
  have hB_w17 : Below w.heap.size w w17 := below2 hB_w16 hb
  have hs_w17 : w16.heap.size ≤ w17.heap.size := hb.size
  replace h_r0 := h_r0.below hb
  replace h_g0 := h_g0.below hb
  replace b_p0_0 := cellB hb b_p0_0
  replace b_p0_1 := cellB hb b_p0_1
  replace b_p0_2 := cellB hb b_p0_2
  replace b_p0_3 := cellB hb b_p0_3
  clear hb
  go_wp2_with fail
  refine (laws_markIntS (1) w17 h_g0 (hlen) (by omega) (by omega)).mono ?_
  rintro e w18 ⟨rfl, hm, ho⟩
  replace ho : Only (fun b => w8.heap.size ≤ b ∧ b < w9.heap.size) w17 w18 := ho.mono fun q hq => ⟨(h_g0.1.lt q hq).1, h_g0.2 q hq⟩
  have hB_w18 : Below w.heap.size w w18 := hB_w17.trans (ho.below hB_w17.size (fun q hq h3 => by have h4 : w8.heap.size ≤ q ∧ q < w9.heap.size := h3; omega))
  have hs_w18 : w17.heap.size ≤ w18.heap.size := ho.size
  replace h_r0 := h_r0.farI ho (by omega)
  replace b_p0_0 := boxfarI ho b_p0_0 (by show w.heap.size < w8.heap.size ∨ w9.heap.size ≤ w.heap.size; omega)
  replace b_p0_1 := boxfarI ho b_p0_1 (by show w.heap.size < w8.heap.size ∨ w9.heap.size ≤ w.heap.size; omega)
  replace b_p0_2 := boxfarI ho b_p0_2 (by show w.heap.size < w8.heap.size ∨ w9.heap.size ≤ w.heap.size; omega)
  replace b_p0_3 := boxfarI ho b_p0_3 (by show w.heap.size < w8.heap.size ∨ w9.heap.size ≤ w.heap.size; omega)
  clear h_g0 ho
  have h_g0 := hm
  clear hm
  go_wp2_with fail
  refine (heldI (1) w18 h_g0 (hlen) (by omega) (by omega)).mono ?_
  rintro e w' ⟨rfl, rfl⟩
  go_wp2_with fail
  refine (laws_toOp r0_0 r0_1 r0_2 w18 (hR0.below (hB_w18)) (hB_w18).size hx0).mono ?_
  rintro e w19 ⟨A_t0, n_t0, c_t0, rfl, h_t0, hb⟩
  have hh : OwI w19 (w18.heap.size) (w19.heap.size) (.slice A_t0 n_t0 c_t0) (xs0) := h_t0
  clear h_t0
  have hB_w19 : Below w.heap.size w w19 := below2 hB_w18 hb
  have hs_w19 : w18.heap.size ≤ w19.heap.size := hb.size
  replace h_r0 := h_r0.below hb
  replace h_g0 := h_g0.below hb
  replace b_p0_0 := cellB hb b_p0_0
  replace b_p0_1 := cellB hb b_p0_1
  replace b_p0_2 := cellB hb b_p0_2
  replace b_p0_3 := cellB hb b_p0_3
  clear hb
  have h_t0 := hh
  clear hh
  go_wp2_with fail
  refine (toI w19 (hR1.below (hB_w19)) (hB_w19).size hx1).mono ?_
  rintro e w20 ⟨A_t1, n_t1, c_t1, rfl, h_t1, hb⟩
  have hh : OwI w20 (w19.heap.size) (w20.heap.size) (.slice A_t1 n_t1 c_t1) (xs1) := h_t1
  clear h_t1
  have hB_w20 : Below w.heap.size w w20 := below2 hB_w19 hb
  have hs_w20 : w19.heap.size ≤ w20.heap.size := hb.size
  replace h_r0 := h_r0.below hb
  replace h_g0 := h_g0.below hb
  replace h_t0 := h_t0.below hb
  replace b_p0_0 := cellB hb b_p0_0
  replace b_p0_1 := cellB hb b_p0_1
  replace b_p0_2 := cellB hb b_p0_2
  replace b_p0_3 := cellB hb b_p0_3
  clear hb
  have h_t1 := hh
  clear hh
  go_wp2_with fail
  refine (impl_OpForward r0_0 r0_1 r0_2 w20 h_t0.ri h_t1.ri (by omega) (by omega) (by have := h_t0.ri.1; omega) (by have := h_t1.ri.1; omega)).mono ?_
  rintro e w21 ⟨v_h0, rfl, hq⟩
  obtain ⟨A_h0, n_h0, c_h0, rfl, h_h0, hb⟩ := newI hq
  clear hq
  have hh_h0 : OwI w21 (w20.heap.size) (w21.heap.size) (.slice A_h0 n_h0 c_h0) (fw ⟨r0_0, r0_1, r0_2, xs0⟩ xs1) := h_h0
  clear h_h0
  have hB_w21 : Below w.heap.size w w21 := below2 hB_w20 hb
  have hs_w21 : w20.heap.size ≤ w21.heap.size := hb.size
  replace h_r0 := h_r0.below hb
  replace h_g0 := h_g0.below hb
  replace h_t0 := h_t0.below hb
  replace h_t1 := h_t1.below hb
  replace b_p0_0 := cellB hb b_p0_0
  replace b_p0_1 := cellB hb b_p0_1
  replace b_p0_2 := cellB hb b_p0_2
  replace b_p0_3 := cellB hb b_p0_3
  clear hb
  have h_h0 := hh_h0
  clear hh_h0
  clear h_t0 h_t1
  go_wp2_with fail
  refine (eqI_same w21 h_h0.ri h_r0.ri hlen).mono ?_
  rintro e w22 ⟨rfl, hb⟩
  have hB_w22 : Below w.heap.size w w22 := below2 hB_w21 hb
  have hs_w22 : w21.heap.size ≤ w22.heap.size := hb.size
  replace h_r0 := h_r0.below hb
  replace h_g0 := h_g0.below hb
  replace h_h0 := h_h0.below hb
  replace b_p0_0 := cellB hb b_p0_0
  replace b_p0_1 := cellB hb b_p0_1
  replace b_p0_2 := cellB hb b_p0_2
  replace b_p0_3 := cellB hb b_p0_3
  clear hb
  go_wp2_with fail
  refine (heldI (1) w22 h_g0 (hlen) (by omega) (by omega)).mono ?_
  rintro e w' ⟨rfl, rfl⟩
  go_wp2_with fail
  go_ret
  exact ⟨rfl, hB_w22⟩
set_option maxRecDepth 100000 in
theorem lifted (os : Os) (started : os.Started) (H : Type) (enc : TypeId × Value → H) :
    ReturnsInHanded {} Try.checked os 4 .any (Rows.fnExactOpForwardSpec.pre6 enc Try.prog Try.f4 Rows.fnExactOpForwardRow.domain false) (Rows.fnExactOpForwardSpec.post enc Try.prog Try.f4 false true false false) := by
  refine law_lifted (C := Try.checked) (f := 4) (fn := Try.f4) (tb := 4) os (by kernel_rfl) started (by kernel_rfl) Try.func4 (by kernel_rfl) (by kernel_rfl) rfl Try.underlying4 rfl (fun H ds h => ?_) H enc
    (ChangeSpec.witness6 (enc := enc) (C := Try.checked) false ⟨#[], #[.agg #[.int .i64 0, .int .i64 0, .int .i64 0, .slice none 0 0], .slice none 0 0], []⟩ 8 (by kernel_rfl) (by kernel_rfl) (by kernel_rfl) (by kernel_rfl)) ?_
  · rw [show Try.f4.params.size = 2 from by kernel_rfl] at h
    match ds, h with
    | [d0, d1], _ => rfl
  intro W base args ds ps hval hA hlt
  have hval : ∀ (j : Nat) t v, Try.f4.params[j]? = some t → args[j]? = some v → Value.okWide Try.prog W .any base t v := hval
  have hA : DataW.TrodAll enc Try.prog W 0 (fun _ => true) true Try.f4.params.toList args.toList ds ps := hA
  rw [Try.params4] at hA hval
  obtain ⟨v0, vs0, d0, ds0, p0, q0, hargs, rfl, rfl, h0, r0⟩ := trodAll_cons hA
  obtain ⟨v1, vs1, d1, ds1, p1, q1, rfl, rfl, rfl, h1, r1⟩ := trodAll_cons r0
  obtain ⟨rfl, rfl, rfl⟩ := trodAll_nil r1
  obtain rfl : args = #[v0, v1] := by cases args; simp_all
  obtain ⟨r0_0, r0_1, r0_2, A0, n0, c0, xs0, rfl, hR0, hN0⟩ := openS3 Try.underlying48 ⟨rfl, rfl⟩ ⟨rfl, rfl⟩ ⟨rfl, rfl⟩ ⟨rfl, rfl⟩ Try.underlying3 Try.underlying25 Try.underlying3 cells_int cells_int (by kernel_rfl) (by kernel_rfl) (hval 0 48 v0 rfl rfl) h0 (fun x hx => hlt x (by simp [hx]))
  obtain ⟨A1, n1, c1, xs1, rfl, hR1⟩ := openI Try.underlying25 Try.underlying3 cells_int (hval 1 25 v1 rfl rfl) h1 (fun x hx => hlt x (by simp [hx]))
  exact walk W hR0 hN0 hR1
theorem proved : Rows.FnExactOpForwardSaid :=
  OpenClaim.holds_of_wide 4 Try.f4 rfl rfl rfl rfl rfl rfl rfl ⟨rfl, rfl, rfl, rfl, rfl⟩ rfl rfl rfl rfl rfl (by kernel_rfl) Try.func4 (by kernel_rfl)
    (of_decide_eq_true (by kernel_rfl)) (by unfold Func.isWrapper; first | (rw [if_pos (by decide +kernel)]; kernel_rfl) | (rw [if_neg (by decide +kernel)]; exact ⟨rfl, rfl⟩))
    (fun os started H enc _ => lifted os started H enc)
#print axioms proved
end Go.Proofs.Ytehfglfbnjdcoaa.fnExactOpForward
