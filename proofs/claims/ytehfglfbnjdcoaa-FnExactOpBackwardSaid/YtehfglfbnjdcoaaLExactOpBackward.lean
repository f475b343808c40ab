/-
  PROVED HERE: the law 'laws.FnExactOpBackward' returns true and leaves its arguments as they were, for every input, without a condition.
-/
import Derived.Test.YtehfglfbnjdcoaaRows
import Derived.Test.YtehfglfbnjdcoaaFrame
import Derived.Test.YtehfglfbnjdcoaaOpenR
import Derived.Test.YtehfglfbnjdcoaaOpenM
import Derived.Test.YtehfglfbnjdcoaaOpen
import Derived.Test.YtehfglfbnjdcoaaOpB
import Derived.WalkKit
import Derived.Deep.RegionHeld3
import Derived.ProofKit
import Derived.OpenShut
namespace Go.Proofs.Ytehfglfbnjdcoaa.fnExactOpBackward
open Go.ChangeShapes Go.WideShapes Go.ChangeAt Go.RowKit
set_option maxRecDepth 100000
open Go.ChangeMaps (open_string)
set_option linter.unusedVariables false
theorem cells_int : Try.prog.cellsOf 3 = 1 := by kernel_rfl
set_option maxHeartbeats 8000000 in
set_option maxRecDepth 100000 in
theorem walk (w : World) {r0_0 r0_1 r0_2 : Int} {A0 : Option Addr} {n0 c0 : Nat} {xs0 : List Int} (hR0 : RI w w.heap.size A0 n0 c0 xs0) (hN0 : (n0 : Int) ≤ 9223372036854775807) {A1 : Option Addr} {n1 c1 : Nat} {xs1 : List Int} (hR1 : RI w w.heap.size A1 n1 c1 xs1) {A2 : Option Addr} {n2 c2 : Nat} {xs2 : List Int} (hR2 : RI w w.heap.size A2 n2 c2 xs2) : Calls Try.prog 5 #[.agg #[.int .i64 r0_0, .int .i64 r0_1, .int .i64 r0_2, .slice A0 n0 c0], .slice A1 n1 c1, .slice A2 n2 c2] w fun e w' => e = .returned (.bool true) ∧ Below w.heap.size w w' := by
  by_cases hL1 : (1048576 : Int) < (n1 : Int)
  · go_enter Try.func5, Try.ntmps5
    go_wp2_with fail
    go_ret
    exact ⟨rfl, by first | exact Below.refl _ _ | exact (Below.refl _ _).alloc (Nat.le_refl _) _ | exact ((Below.refl _ _).alloc (Nat.le_refl _) _).alloc (by simp) _⟩
  by_cases hL2 : (1048576 : Int) < (n2 : Int)
  · go_enter Try.func5, Try.ntmps5
    go_wp2_with fail
    go_ret
    exact ⟨rfl, by first | exact Below.refl _ _ | exact (Below.refl _ _).alloc (Nat.le_refl _) _ | exact ((Below.refl _ _).alloc (Nat.le_refl _) _).alloc (by simp) _⟩
  obtain ⟨q0, hq0⟩ : ∃ q, szF n0 1048576 = q := ⟨_, rfl⟩
  have hc0 := szF_case n0 1048576
  rw [hq0] at hc0
  have HQ0 := hide hq0
  clear hq0
  rcases hc0 with rfl | ⟨hq0, hn0, hk0⟩
  · go_enter Try.func5, Try.ntmps5
    go_wp2_with fail
    obtain ⟨w1, hw0⟩ : ∃ W, W = w.alloc (.cells #[.int .i64 r0_0, .int .i64 r0_1, .int .i64 r0_2, .slice A0 n0 c0] 48) := ⟨_, rfl⟩
    have hb : Below w.heap.size w w1 := hw0 ▸ (Below.refl _ _).alloc (Nat.le_refl _) _
    have hz_p0 : w1.heap.size = w.heap.size + 1 := by rw [hw0]; simp
    have c_0 : w1.cell? ⟨w.heap.size, 0, none⟩ = some (.int .i64 r0_0) := by rw [hw0]; simp
    have c_1 : w1.cell? ⟨w.heap.size, 1, none⟩ = some (.int .i64 r0_1) := by rw [hw0]; simp
    have c_2 : w1.cell? ⟨w.heap.size, 2, none⟩ = some (.int .i64 r0_2) := by rw [hw0]; simp
    have c_3 : w1.cell? ⟨w.heap.size, 3, none⟩ = some (.slice A0 n0 c0) := by rw [hw0]; simp
    have hB_w1 : Below w.heap.size w w1 := hb
    have hs_w1 : w.heap.size ≤ w1.heap.size := hb.size
    clear hb
    have b_p0_0 := c_0
    clear c_0
    have b_p0_1 := c_1
    clear c_1
    have b_p0_2 := c_2
    clear c_2
    have b_p0_3 := c_3
    clear c_3
    rw [← hw0]
    clear hw0
    have HZ := laws_szOp r0_0 r0_1 r0_2 A0 n0 c0 1048576 w1 (by omega) (by omega) hN0
    rw [HQ0.out] at HZ
    refine HZ.mono ?_
    clear HZ
    rintro e w2 ⟨rfl, hb⟩
    have hB_w2 : Below w.heap.size w w2 := below2 hB_w1 hb
    have hs_w2 : w1.heap.size ≤ w2.heap.size := hb.size
    replace b_p0_0 := cellB hb b_p0_0
    replace b_p0_1 := cellB hb b_p0_1
    replace b_p0_2 := cellB hb b_p0_2
    replace b_p0_3 := cellB hb b_p0_3
    clear hb
    go_wp2_with fail
    go_ret
    exact ⟨rfl, hB_w2⟩
  have hx0 : xs0.length ≤ 1048576 := by have := hR0.1; omega
  have hx1 : xs1.length ≤ 1048576 := by have := hR1.1; omega
  have hx2 : xs2.length ≤ 1048576 := by have := hR2.1; omega
  have hlen0 : (bw ⟨r0_0, r0_1, r0_2, xs0⟩ xs1 xs2).length ≤ 1048576 := by have := bw_len ⟨r0_0, r0_1, r0_2, xs0⟩ xs1 xs2; omega
  have hlen1 : (bwG ⟨r0_0, r0_1, r0_2, xs0⟩ xs1 xs2).length ≤ 1048576 := by have := bwG_len ⟨r0_0, r0_1, r0_2, xs0⟩ xs1 xs2; omega
  go_enter Try.func5, Try.ntmps5
  go_wp2_with fail
  obtain ⟨w1, hw0⟩ : ∃ W, W = w.alloc (.cells #[.int .i64 r0_0, .int .i64 r0_1, .int .i64 r0_2, .slice A0 n0 c0] 48) := ⟨_, rfl⟩
  have hb : Below w.heap.size w w1 := hw0 ▸ (Below.refl _ _).alloc (Nat.le_refl _) _
  have hz_p0 : w1.heap.size = w.heap.size + 1 := by rw [hw0]; simp
  have c_0 : w1.cell? ⟨w.heap.size, 0, none⟩ = some (.int .i64 r0_0) := by rw [hw0]; simp
  have c_1 : w1.cell? ⟨w.heap.size, 1, none⟩ = some (.int .i64 r0_1) := by rw [hw0]; simp
  have c_2 : w1.cell? ⟨w.heap.size, 2, none⟩ = some (.int .i64 r0_2) := by rw [hw0]; simp
  have c_3 : w1.cell? ⟨w.heap.size, 3, none⟩ = some (.slice A0 n0 c0) := by rw [hw0]; simp
  have hB_w1 : Below w.heap.size w w1 := hb
  have hs_w1 : w.heap.size ≤ w1.heap.size := hb.size
  clear hb
  have b_p0_0 := c_0
  clear c_0
  have b_p0_1 := c_1
  clear c_1
  have b_p0_2 := c_2
  clear c_2
  have b_p0_3 := c_3
  clear c_3
  rw [← hw0]
  clear hw0
  have HZ := laws_szOp r0_0 r0_1 r0_2 A0 n0 c0 1048576 w1 (by omega) (by omega) hN0
  rw [HQ0.out] at HZ
  refine HZ.mono ?_
  clear HZ
  rintro e w2 ⟨rfl, hb⟩
  have hB_w2 : Below w.heap.size w w2 := below2 hB_w1 hb
  have hs_w2 : w1.heap.size ≤ w2.heap.size := hb.size
  replace b_p0_0 := cellB hb b_p0_0
  replace b_p0_1 := cellB hb b_p0_1
  replace b_p0_2 := cellB hb b_p0_2
  replace b_p0_3 := cellB hb b_p0_3
  clear hb
  go_wp2_with fail
  refine (laws_toOp r0_0 r0_1 r0_2 w2 (hR0.below (hB_w2)) (hB_w2).size hx0).mono ?_
  rintro e w3 ⟨A_t0, n_t0, c_t0, rfl, h_t0, hb⟩
  have hh : OwI w3 (w2.heap.size) (w3.heap.size) (.slice A_t0 n_t0 c_t0) (xs0) := h_t0
  clear h_t0
  have hB_w3 : Below w.heap.size w w3 := below2 hB_w2 hb
  have hs_w3 : w2.heap.size ≤ w3.heap.size := hb.size
  replace b_p0_0 := cellB hb b_p0_0
  replace b_p0_1 := cellB hb b_p0_1
  replace b_p0_2 := cellB hb b_p0_2
  replace b_p0_3 := cellB hb b_p0_3
  clear hb
  have h_t0 := hh
  clear hh
  go_wp2_with fail
  refine (toI w3 (hR1.below (hB_w3)) (hB_w3).size hx1).mono ?_
  rintro e w4 ⟨A_t1, n_t1, c_t1, rfl, h_t1, hb⟩
  have hh : OwI w4 (w3.heap.size) (w4.heap.size) (.slice A_t1 n_t1 c_t1) (xs1) := h_t1
  clear h_t1
  have hB_w4 : Below w.heap.size w w4 := below2 hB_w3 hb
  have hs_w4 : w3.heap.size ≤ w4.heap.size := hb.size
  replace h_t0 := h_t0.below hb
  replace b_p0_0 := cellB hb b_p0_0
  replace b_p0_1 := cellB hb b_p0_1
  replace b_p0_2 := cellB hb b_p0_2
  replace b_p0_3 := cellB hb b_p0_3
  clear hb
  have h_t1 := hh
  clear hh
  go_wp2_with fail
  refine (toI w4 (hR2.below (hB_w4)) (hB_w4).size hx2).mono ?_
  rintro e w5 ⟨A_t2, n_t2, c_t2, rfl, h_t2, hb⟩
  have hh : OwI w5 (w4.heap.size) (w5.heap.size) (.slice A_t2 n_t2 c_t2) (xs2) := h_t2
  clear h_t2
  have hB_w5 : Below w.heap.size w w5 := below2 hB_w4 hb
  have hs_w5 : w4.heap.size ≤ w5.heap.size := hb.size
  replace h_t0 := h_t0.below hb
  replace h_t1 := h_t1.below hb
  replace b_p0_0 := cellB hb b_p0_0
  replace b_p0_1 := cellB hb b_p0_1
  replace b_p0_2 := cellB hb b_p0_2
  replace b_p0_3 := cellB hb b_p0_3
  clear hb
  have h_t2 := hh
  clear hh
  go_wp2_with fail
  refine (spec_OpBackward r0_0 r0_1 r0_2 w5 h_t0.ri h_t1.ri h_t2.ri (by omega) (by omega) (by omega) (by have := h_t0.ri.1; omega) (by have := h_t1.ri.1; omega) (by have := h_t2.ri.1; omega)).mono ?_
  rintro e w6 ⟨v_r, u_r, rfl, h_r0, h_r1, hb⟩
  obtain ⟨A_r0, n_r0, c_r0, rfl, _⟩ := h_r0.rv
  obtain ⟨A_r1, n_r1, c_r1, rfl, _⟩ := h_r1.rv
  have hh_r0 : OwI w6 (w5.heap.size) (w6.heap.size) (.slice A_r0 n_r0 c_r0) (bw ⟨r0_0, r0_1, r0_2, xs0⟩ xs1 xs2) := h_r0
  clear h_r0
  have hh_r1 : OwI w6 (w5.heap.size) (w6.heap.size) (.slice A_r1 n_r1 c_r1) (bwG ⟨r0_0, r0_1, r0_2, xs0⟩ xs1 xs2) := h_r1
  clear h_r1
  have hB_w6 : Below w.heap.size w w6 := below2 hB_w5 hb
  have hs_w6 : w5.heap.size ≤ w6.heap.size := hb.size
  replace h_t0 := h_t0.below hb
  replace h_t1 := h_t1.below hb
  replace h_t2 := h_t2.below hb
  replace b_p0_0 := cellB hb b_p0_0
  replace b_p0_1 := cellB hb b_p0_1
  replace b_p0_2 := cellB hb b_p0_2
  replace b_p0_3 := cellB hb b_p0_3
  clear hb
  have h_r0 := hh_r0
  clear hh_r0
  have h_r1 := hh_r1
  clear hh_r1
  clear h_t0 h_t1 h_t2
  go_wp2_with fail
  refine (laws_toOp r0_0 r0_1 r0_2 w6 (hR0.below (hB_w6)) (hB_w6).size hx0).mono ?_
  rintro e w7 ⟨A_x0, n_x0, c_x0, rfl, h_x0, hb⟩
  have hh : OwI w7 (w6.heap.size) (w7.heap.size) (.slice A_x0 n_x0 c_x0) (xs0) := h_x0
  clear h_x0
  have hB_w7 : Below w.heap.size w w7 := below2 hB_w6 hb
  have hs_w7 : w6.heap.size ≤ w7.heap.size := hb.size
  replace h_r0 := h_r0.below hb
  replace h_r1 := h_r1.below hb
  replace b_p0_0 := cellB hb b_p0_0
  replace b_p0_1 := cellB hb b_p0_1
  replace b_p0_2 := cellB hb b_p0_2
  replace b_p0_3 := cellB hb b_p0_3
  clear hb
  have h_x0 := hh
  clear hh
  have ba_p0_0 := fun o => cellB ((Below.refl _ _).alloc (Nat.le_refl _) o) b_p0_0
  have ba_p0_1 := fun o => cellB ((Below.refl _ _).alloc (Nat.le_refl _) o) b_p0_1
  have ba_p0_2 := fun o => cellB ((Below.refl _ _).alloc (Nat.le_refl _) o) b_p0_2
  have ba_p0_3 := fun o => cellB ((Below.refl _ _).alloc (Nat.le_refl _) o) b_p0_3
  go_wp2_with fail
  clear ba_p0_0 ba_p0_1 ba_p0_2 ba_p0_3
  obtain ⟨w8, hw⟩ : ∃ W, W = w7.alloc (.cells #[.int .i64 r0_0, .int .i64 r0_1, .int .i64 r0_2, .slice A_x0 n_x0 c_x0] 52) := ⟨_, rfl⟩
  have hb : Below w7.heap.size w7 w8 := hw ▸ (Below.refl _ _).alloc (Nat.le_refl _) _
  have hz_x0 : w7.heap.size < w8.heap.size := by rw [hw]; simp
  have c_0 : w8.cell? ⟨w7.heap.size, 0, none⟩ = some (.int .i64 r0_0) := by rw [hw]; simp
  have c_1 : w8.cell? ⟨w7.heap.size, 1, none⟩ = some (.int .i64 r0_1) := by rw [hw]; simp
  have c_2 : w8.cell? ⟨w7.heap.size, 2, none⟩ = some (.int .i64 r0_2) := by rw [hw]; simp
  have c_3 : w8.cell? ⟨w7.heap.size, 3, none⟩ = some (.slice A_x0 n_x0 c_x0) := by rw [hw]; simp
  rw [← hw]
  clear hw
  have hB_w8 : Below w.heap.size w w8 := below2 hB_w7 hb
  have hs_w8 : w7.heap.size ≤ w8.heap.size := hb.size
  replace h_r0 := h_r0.below hb
  replace h_r1 := h_r1.below hb
  replace h_x0 := h_x0.below hb
  replace b_p0_0 := cellB hb b_p0_0
  replace b_p0_1 := cellB hb b_p0_1
  replace b_p0_2 := cellB hb b_p0_2
  replace b_p0_3 := cellB hb b_p0_3
  clear hb
  have b_x0_0 := c_0
  clear c_0
  have b_x0_1 := c_1
  clear c_1
  have b_x0_2 := c_2
  clear c_2
  have b_x0_3 := c_3
  clear c_3
  refine (toI w8 (hR1.below (hB_w8)) (hB_w8).size hx1).mono ?_
  rintro e w9 ⟨A_x1, n_x1, c_x1, rfl, h_x1, hb⟩
  have hh : OwI w9 (w8.heap.size) (w9.heap.size) (.slice A_x1 n_x1 c_x1) (xs1) := h_x1
  clear h_x1
  have hB_w9 : Below w.heap.size w w9 := below2 hB_w8 hb
  have hs_w9 : w8.heap.size ≤ w9.heap.size := hb.size
  replace h_r0 := h_r0.below hb
  replace h_r1 := h_r1.below hb
  replace h_x0 := h_x0.below hb
  replace b_p0_0 := cellB hb b_p0_0
  replace b_p0_1 := cellB hb b_p0_1
  replace b_p0_2 := cellB hb b_p0_2
  replace b_p0_3 := cellB hb b_p0_3
  replace b_x0_0 := cellB hb b_x0_0
  replace b_x0_1 := cellB hb b_x0_1
  replace b_x0_2 := cellB hb b_x0_2
  replace b_x0_3 := cellB hb b_x0_3
  clear hb
  have h_x1 := hh
  clear hh
  go_wp2_with fail
  refine (toI w9 (hR2.below (hB_w9)) (hB_w9).size hx2).mono ?_
  rintro e w10 ⟨A_x2, n_x2, c_x2, rfl, h_x2, hb⟩
  have hh : OwI w10 (w9.heap.size) (w10.heap.size) (.slice A_x2 n_x2 c_x2) (xs2) := h_x2
  clear h_x2
  have hB_w10 : Below w.heap.size w w10 := below2 hB_w9 hb
  have hs_w10 : w9.heap.size ≤ w10.heap.size := hb.size
  replace h_r0 := h_r0.below hb
  replace h_r1 := h_r1.below hb
  replace h_x0 := h_x0.below hb
  replace h_x1 := h_x1.below hb
  replace b_p0_0 := cellB hb b_p0_0
  replace b_p0_1 := cellB hb b_p0_1
  replace b_p0_2 := cellB hb b_p0_2
  replace b_p0_3 := cellB hb b_p0_3
  replace b_x0_0 := cellB hb b_x0_0
  replace b_x0_1 := cellB hb b_x0_1
  replace b_x0_2 := cellB hb b_x0_2
  replace b_x0_3 := cellB hb b_x0_3
  clear hb
  have h_x2 := hh
  clear hh
  go_wp2_with fail
  refine (impl_OpBackward r0_0 r0_1 r0_2 w10 h_x0.ri h_x1.ri h_x2.ri (by omega) (by omega) (by omega) (by have := h_x0.ri.1; omega) (by have := h_x1.ri.1; omega) (by have := h_x2.ri.1; omega)).mono ?_
  rintro e w11 ⟨v_g, u_g, mid_g, rfl, hm1_g, hm2_g, h_g0, h_g1, hb⟩
  obtain ⟨A_g0, n_g0, c_g0, rfl, _⟩ := h_g0.rv
  obtain ⟨A_g1, n_g1, c_g1, rfl, _⟩ := h_g1.rv
  have hh_g0 : OwI w11 (w10.heap.size) (mid_g) (.slice A_g0 n_g0 c_g0) (bw ⟨r0_0, r0_1, r0_2, xs0⟩ xs1 xs2) := h_g0
  clear h_g0
  have hh_g1 : OwI w11 (mid_g) (w11.heap.size) (.slice A_g1 n_g1 c_g1) (bwG ⟨r0_0, r0_1, r0_2, xs0⟩ xs1 xs2) := h_g1
  clear h_g1
  have hB_w11 : Below w.heap.size w w11 := below2 hB_w10 hb
  have hs_w11 : w10.heap.size ≤ w11.heap.size := hb.size
  replace h_r0 := h_r0.below hb
  replace h_r1 := h_r1.below hb
  replace h_x0 := h_x0.below hb
  replace h_x1 := h_x1.below hb
  replace h_x2 := h_x2.below hb
  replace b_p0_0 := cellB hb b_p0_0
  replace b_p0_1 := cellB hb b_p0_1
  replace b_p0_2 := cellB hb b_p0_2
  replace b_p0_3 := cellB hb b_p0_3
  replace b_x0_0 := cellB hb b_x0_0
  replace b_x0_1 := cellB hb b_x0_1
  replace b_x0_2 := cellB hb b_x0_2
  replace b_x0_3 := cellB hb b_x0_3
  clear hb
  have h_g0 := hh_g0
  clear hh_g0
  have h_g1 := hh_g1
  clear hh_g1
  go_wp2_with fail
  refine (eqI_same w11 h_g0.ri h_r0.ri hlen0).mono ?_
  rintro e w12 ⟨rfl, hb⟩
  have hB_w12 : Below w.heap.size w w12 := below2 hB_w11 hb
  have hs_w12 : w11.heap.size ≤ w12.heap.size := hb.size
  replace h_r0 := h_r0.below hb
  replace h_r1 := h_r1.below hb
  replace h_x0 := h_x0.below hb
  replace h_x1 := h_x1.below hb
  replace h_x2 := h_x2.below hb
  replace h_g0 := h_g0.below hb
  replace h_g1 := h_g1.below hb
  replace b_p0_0 := cellB hb b_p0_0
  replace b_p0_1 := cellB hb b_p0_1
  replace b_p0_2 := cellB hb b_p0_2
  replace b_p0_3 := cellB hb b_p0_3
  replace b_x0_0 := cellB hb b_x0_0
  replace b_x0_1 := cellB hb b_x0_1
  replace b_x0_2 := cellB hb b_x0_2
  replace b_x0_3 := cellB hb b_x0_3
  clear hb
  go_wp2_with fail
  refine (eqI_same w12 h_g1.ri h_r1.ri hlen1).mono ?_
  rintro e w13 ⟨rfl, hb⟩
  have hB_w13 : Below w.heap.size w w13 := below2 hB_w12 hb
  have hs_w13 : w12.heap.size ≤ w13.heap.size := hb.size
  replace h_r0 := h_r0.below hb
  replace h_r1 := h_r1.below hb
  replace h_x0 := h_x0.below hb
  replace h_x1 := h_x1.below hb
  replace h_x2 := h_x2.below hb
  replace h_g0 := h_g0.below hb
  replace h_g1 := h_g1.below hb
  replace b_p0_0 := cellB hb b_p0_0
  replace b_p0_1 := cellB hb b_p0_1
  replace b_p0_2 := cellB hb b_p0_2
  replace b_p0_3 := cellB hb b_p0_3
  replace b_x0_0 := cellB hb b_x0_0
  replace b_x0_1 := cellB hb b_x0_1
  replace b_x0_2 := cellB hb b_x0_2
  replace b_x0_3 := cellB hb b_x0_3
  clear hb
  go_wp2_with fail
  have gate0 : True := trivial
  have gate1 : True := trivial
  go_region_held3 (fun W => W.cell? ⟨w.heap.size, 0, none⟩ = some (.int .i64 r0_0) ∧ W.cell? ⟨w.heap.size, 1, none⟩ = some (.int .i64 r0_1) ∧ W.cell? ⟨w.heap.size, 2, none⟩ = some (.int .i64 r0_2) ∧ W.cell? ⟨w.heap.size, 3, none⟩ = some (.slice A0 n0 c0) ∧ W.cell? ⟨w7.heap.size, 0, none⟩ = some (.int .i64 r0_0) ∧ W.cell? ⟨w7.heap.size, 1, none⟩ = some (.int .i64 r0_1) ∧ W.cell? ⟨w7.heap.size, 2, none⟩ = some (.int .i64 r0_2) ∧ W.cell? ⟨w7.heap.size, 3, none⟩ = some (.slice A_x0 n_x0 c_x0)) (first | exact ⟨b_p0_0, b_p0_1, b_p0_2, b_p0_3, b_x0_0, b_x0_1, b_x0_2, b_x0_3⟩) (first
    | (clear gate0; go_at_call 29; refine (laws_toOp r0_0 r0_1 r0_2 w13.drew (hR0.below (hB_w13.drew)) (hB_w13.drew).size hx0).mono ?_; rintro e w14 ⟨A_y, n_y, c_y, rfl, h_y, hb⟩; have hb := undrew hb; have hh : OwI w14 (w13.heap.size) (w14.heap.size) (.slice A_y n_y c_y) (xs0) := h_y; clear h_y; have hB_w14 : Below w.heap.size w w14 := below2 hB_w13 hb; have hs_w14 : w13.heap.size ≤ w14.heap.size := hb.size; replace h_r0 := h_r0.below hb; replace h_r1 := h_r1.below hb; replace h_x0 := h_x0.below hb; replace h_x1 := h_x1.below hb; replace h_x2 := h_x2.below hb; replace h_g0 := h_g0.below hb; replace h_g1 := h_g1.below hb; replace b_p0_0 := cellB hb b_p0_0; replace b_p0_1 := cellB hb b_p0_1; replace b_p0_2 := cellB hb b_p0_2; replace b_p0_3 := cellB hb b_p0_3; replace b_x0_0 := cellB hb b_x0_0; replace b_x0_1 := cellB hb b_x0_1; replace b_x0_2 := cellB hb b_x0_2; replace b_x0_3 := cellB hb b_x0_3; clear hb; have h_y := hh; clear hh)
    | (clear gate1; go_at_call 33; refine (laws_eqOp (r0_0) (r0_1) (r0_2) w14 h_x0.ri h_y.ri (by omega) (by omega) hx0).mono ?_; rintro e w15 ⟨rfl, hb⟩; have hB_w15 : Below w.heap.size w w15 := below2 hB_w14 hb; have hs_w15 : w14.heap.size ≤ w15.heap.size := hb.size; replace h_r0 := h_r0.below hb; replace h_r1 := h_r1.below hb; replace h_x0 := h_x0.below hb; replace h_x1 := h_x1.below hb; replace h_x2 := h_x2.below hb; replace h_g0 := h_g0.below hb; replace h_g1 := h_g1.below hb; replace h_y := h_y.below hb; replace b_p0_0 := cellB hb b_p0_0; replace b_p0_1 := cellB hb b_p0_1; replace b_p0_2 := cellB hb b_p0_2; replace b_p0_3 := cellB hb b_p0_3; replace b_x0_0 := cellB hb b_x0_0; replace b_x0_1 := cellB hb b_x0_1; replace b_x0_2 := cellB hb b_x0_2; replace b_x0_3 := cellB hb b_x0_3; clear hb))
  clear h_y
  go_wp2_with fail
  refine (toI w15 (hR1.below (hB_w15)) (hB_w15).size hx1).mono ?_
  rintro e w16 ⟨A_y, n_y, c_y, rfl, h_y, hb⟩
  have hh : OwI w16 (w15.heap.size) (w16.heap.size) (.slice A_y n_y c_y) (xs1) := h_y
  clear h_y
  have hB_w16 : Below w.heap.size w w16 := below2 hB_w15 hb
  have hs_w16 : w15.heap.size ≤ w16.heap.size := hb.size
  replace h_r0 := h_r0.below hb
  replace h_r1 := h_r1.below hb
  replace h_x0 := h_x0.below hb
  replace h_x1 := h_x1.below hb
  replace h_x2 := h_x2.below hb
  replace h_g0 := h_g0.below hb
  replace h_g1 := h_g1.below hb
  replace b_p0_0 := cellB hb b_p0_0
  replace b_p0_1 := cellB hb b_p0_1
  replace b_p0_2 := cellB hb b_p0_2
  replace b_p0_3 := cellB hb b_p0_3
  replace b_x0_0 := cellB hb b_x0_0
  replace b_x0_1 := cellB hb b_x0_1
  replace b_x0_2 := cellB hb b_x0_2
  replace b_x0_3 := cellB hb b_x0_3
  clear hb
  have h_y := hh
  clear hh
  go_wp2_with fail
  refine (eqI_same w16 h_x1.ri h_y.ri hx1).mono ?_
  rintro e w17 ⟨rfl, hb⟩
  have hB_w17 : Below w.heap.size w w17 := below2 hB_w16 hb
  have hs_w17 : w16.heap.size ≤ w17.heap.size := hb.size
  replace h_r0 := h_r0.below hb
  replace h_r1 := h_r1.below hb
  replace h_x0 := h_x0.below hb
  replace h_x1 := h_x1.below hb
  replace h_x2 := h_x2.below hb
  replace h_g0 := h_g0.below hb
  replace h_g1 := h_g1.below hb
  replace h_y := h_y.below hb
  replace b_p0_0 := cellB hb b_p0_0
  replace b_p0_1 := cellB hb b_p0_1
  replace b_p0_2 := cellB hb b_p0_2
  replace b_p0_3 := cellB hb b_p0_3
  replace b_x0_0 := cellB hb b_x0_0
  replace b_x0_1 := cellB hb b_x0_1
  replace b_x0_2 := cellB hb b_x0_2
  replace b_x0_3 := cellB hb b_x0_3
  clear hb
  clear h_y
  go_wp2_with fail
  refine (toI w17 (hR2.below (hB_w17)) (hB_w17).size hx2).mono ?_
  rintro e w18 ⟨A_y, n_y, c_y, rfl, h_y, hb⟩
  have hh : OwI w18 (w17.heap.size) (w18.heap.size) (.slice A_y n_y c_y) (xs2) := h_y
  clear h_y
  have hB_w18 : Below w.heap.size w w18 := below2 hB_w17 hb
  have hs_w18 : w17.heap.size ≤ w18.heap.size := hb.size
  replace h_r0 := h_r0.below hb
  replace h_r1 := h_r1.below hb
  replace h_x0 := h_x0.below hb
  replace h_x1 := h_x1.below hb
  replace h_x2 := h_x2.below hb
  replace h_g0 := h_g0.below hb
  replace h_g1 := h_g1.below hb
  replace b_p0_0 := cellB hb b_p0_0
  replace b_p0_1 := cellB hb b_p0_1
  replace b_p0_2 := cellB hb b_p0_2
  replace b_p0_3 := cellB hb b_p0_3
  replace b_x0_0 := cellB hb b_x0_0
  replace b_x0_1 := cellB hb b_x0_1
  replace b_x0_2 := cellB hb b_x0_2
  replace b_x0_3 := cellB hb b_x0_3
  clear hb
  have h_y := hh
  clear hh
  go_wp2_with fail
  refine (eqI_same w18 h_x2.ri h_y.ri hx2).mono ?_
  rintro e w19 ⟨rfl, hb⟩
  have hB_w19 : Below w.heap.size w w19 := below2 hB_w18 hb
  have hs_w19 : w18.heap.size ≤ w19.heap.size := hb.size
  replace h_r0 := h_r0.below hb
  replace h_r1 := h_r1.below hb
  replace h_x0 := h_x0.below hb
  replace h_x1 := h_x1.below hb
  replace h_x2 := h_x2.below hb
  replace h_g0 := h_g0.below hb
  replace h_g1 := h_g1.below hb
  replace h_y := h_y.below hb
  replace b_p0_0 := cellB hb b_p0_0
  replace b_p0_1 := cellB hb b_p0_1
  replace b_p0_2 := cellB hb b_p0_2
  replace b_p0_3 := cellB hb b_p0_3
  replace b_x0_0 := cellB hb b_x0_0
  replace b_x0_1 := cellB hb b_x0_1
  replace b_x0_2 := cellB hb b_x0_2
  replace b_x0_3 := cellB hb b_x0_3
  clear hb
  clear h_y
  go_wp2_with fail
  refine (laws_markOp (r0_0) (r0_1) (r0_2) (1) w19 h_x0 (hx0) (by omega) (by omega)).mono ?_
  rintro e w20 ⟨rfl, hm, ho⟩
  replace ho : Only (fun b => w6.heap.size ≤ b ∧ b < w7.heap.size) w19 w20 := ho.mono fun q hq => ⟨(h_x0.1.lt q hq).1, h_x0.2 q hq⟩
  have hB_w20 : Below w.heap.size w w20 := hB_w19.trans (ho.below hB_w19.size (fun q hq h3 => by have h4 : w6.heap.size ≤ q ∧ q < w7.heap.size := h3; omega))
  have hs_w20 : w19.heap.size ≤ w20.heap.size := ho.size
  replace h_r0 := h_r0.farI ho (by omega)
  replace h_r1 := h_r1.farI ho (by omega)
  replace h_x1 := h_x1.farI ho (by omega)
  replace h_x2 := h_x2.farI ho (by omega)
  replace h_g0 := h_g0.farI ho (by omega)
  replace h_g1 := h_g1.farI ho (by omega)
  replace b_p0_0 := boxfarI ho b_p0_0 (by show w.heap.size < w6.heap.size ∨ w7.heap.size ≤ w.heap.size; omega)
  replace b_p0_1 := boxfarI ho b_p0_1 (by show w.heap.size < w6.heap.size ∨ w7.heap.size ≤ w.heap.size; omega)
  replace b_p0_2 := boxfarI ho b_p0_2 (by show w.heap.size < w6.heap.size ∨ w7.heap.size ≤ w.heap.size; omega)
  replace b_p0_3 := boxfarI ho b_p0_3 (by show w.heap.size < w6.heap.size ∨ w7.heap.size ≤ w.heap.size; omega)
  replace b_x0_0 := boxfarI ho b_x0_0 (by show w7.heap.size < w6.heap.size ∨ w7.heap.size ≤ w7.heap.size; omega)
  replace b_x0_1 := boxfarI ho b_x0_1 (by show w7.heap.size < w6.heap.size ∨ w7.heap.size ≤ w7.heap.size; omega)
  replace b_x0_2 := boxfarI ho b_x0_2 (by show w7.heap.size < w6.heap.size ∨ w7.heap.size ≤ w7.heap.size; omega)
  replace b_x0_3 := boxfarI ho b_x0_3 (by show w7.heap.size < w6.heap.size ∨ w7.heap.size ≤ w7.heap.size; omega)
  clear h_x0 ho
  have h_x0 := hm
  clear hm
  go_wp2_with fail
  refine (laws_markIntS (1 + ((xs0).length : Int)) w20 h_x1 (hx1) (by omega) (by omega)).mono ?_
  rintro e w21 ⟨rfl, hm, ho⟩
  replace ho : Only (fun b => w8.heap.size ≤ b ∧ b < w9.heap.size) w20 w21 := ho.mono fun q hq => ⟨(h_x1.1.lt q hq).1, h_x1.2 q hq⟩
  have hB_w21 : Below w.heap.size w w21 := hB_w20.trans (ho.below hB_w20.size (fun q hq h3 => by have h4 : w8.heap.size ≤ q ∧ q < w9.heap.size := h3; omega))
  have hs_w21 : w20.heap.size ≤ w21.heap.size := ho.size
  replace h_r0 := h_r0.farI ho (by omega)
  replace h_r1 := h_r1.farI ho (by omega)
  replace h_x0 := h_x0.farI ho (by omega)
  replace h_x2 := h_x2.farI ho (by omega)
  replace h_g0 := h_g0.farI ho (by omega)
  replace h_g1 := h_g1.farI ho (by omega)
  replace b_p0_0 := boxfarI ho b_p0_0 (by show w.heap.size < w8.heap.size ∨ w9.heap.size ≤ w.heap.size; omega)
  replace b_p0_1 := boxfarI ho b_p0_1 (by show w.heap.size < w8.heap.size ∨ w9.heap.size ≤ w.heap.size; omega)
  replace b_p0_2 := boxfarI ho b_p0_2 (by show w.heap.size < w8.heap.size ∨ w9.heap.size ≤ w.heap.size; omega)
  replace b_p0_3 := boxfarI ho b_p0_3 (by show w.heap.size < w8.heap.size ∨ w9.heap.size ≤ w.heap.size; omega)
  replace b_x0_0 := boxfarI ho b_x0_0 (by show w7.heap.size < w8.heap.size ∨ w9.heap.size ≤ w7.heap.size; omega)
  replace b_x0_1 := boxfarI ho b_x0_1 (by show w7.heap.size < w8.heap.size ∨ w9.heap.size ≤ w7.heap.size; omega)
  replace b_x0_2 := boxfarI ho b_x0_2 (by show w7.heap.size < w8.heap.size ∨ w9.heap.size ≤ w7.heap.size; omega)
  replace b_x0_3 := boxfarI ho b_x0_3 (by show w7.heap.size < w8.heap.size ∨ w9.heap.size ≤ w7.heap.size; omega)
  clear h_x1 ho
  have h_x1 := hm
  clear hm
  go_wp2_with fail
  refine (laws_markIntS (1 + ((xs0).length : Int) + ((xs1).length : Int)) w21 h_x2 (hx2) (by omega) (by omega)).mono ?_
  rintro e w22 ⟨rfl, hm, ho⟩
  replace ho : Only (fun b => w9.heap.size ≤ b ∧ b < w10.heap.size) w21 w22 := ho.mono fun q hq => ⟨(h_x2.1.lt q hq).1, h_x2.2 q hq⟩
  have hB_w22 : Below w.heap.size w w22 := hB_w21.trans (ho.below hB_w21.size (fun q hq h3 => by have h4 : w9.heap.size ≤ q ∧ q < w10.heap.size := h3; omega))
  have hs_w22 : w21.heap.size ≤ w22.heap.size := ho.size
  replace h_r0 := h_r0.farI ho (by omega)
  replace h_r1 := h_r1.farI ho (by omega)
  replace h_x0 := h_x0.farI ho (by omega)
  replace h_x1 := h_x1.farI ho (by omega)
  replace h_g0 := h_g0.farI ho (by omega)
  replace h_g1 := h_g1.farI ho (by omega)
  replace b_p0_0 := boxfarI ho b_p0_0 (by show w.heap.size < w9.heap.size ∨ w10.heap.size ≤ w.heap.size; omega)
  replace b_p0_1 := boxfarI ho b_p0_1 (by show w.heap.size < w9.heap.size ∨ w10.heap.size ≤ w.heap.size; omega)
  replace b_p0_2 := boxfarI ho b_p0_2 (by show w.heap.size < w9.heap.size ∨ w10.heap.size ≤ w.heap.size; omega)
  replace b_p0_3 := boxfarI ho b_p0_3 (by show w.heap.size < w9.heap.size ∨ w10.heap.size ≤ w.heap.size; omega)
  replace b_x0_0 := boxfarI ho b_x0_0 (by show w7.heap.size < w9.heap.size ∨ w10.heap.size ≤ w7.heap.size; omega)
  replace b_x0_1 := boxfarI ho b_x0_1 (by show w7.heap.size < w9.heap.size ∨ w10.heap.size ≤ w7.heap.size; omega)
  replace b_x0_2 := boxfarI ho b_x0_2 (by show w7.heap.size < w9.heap.size ∨ w10.heap.size ≤ w7.heap.size; omega)
  replace b_x0_3 := boxfarI ho b_x0_3 (by show w7.heap.size < w9.heap.size ∨ w10.heap.size ≤ w7.heap.size; omega)
  clear h_x2 ho
  have h_x2 := hm
  clear hm
  clear h_x0 h_x1 h_x2
  clear b_x0_0
  clear b_x0_1
  clear b_x0_2
  clear b_x0_3
  go_wp2_with fail
  refine (eqI_same w22 h_g0.ri h_r0.ri hlen0).mono ?_
  rintro e w23 ⟨rfl, hb⟩
  have hB_w23 : Below w.heap.size w w23 := below2 hB_w22 hb
  have hs_w23 : w22.heap.size ≤ w23.heap.size := hb.size
  replace h_r0 := h_r0.below hb
  replace h_r1 := h_r1.below hb
  replace h_g0 := h_g0.below hb
  replace h_g1 := h_g1.below hb
  replace b_p0_0 := cellB hb b_p0_0
  replace b_p0_1 := cellB hb b_p0_1
  replace b_p0_2 := cellB hb b_p0_2
  replace b_p0_3 := cellB hb b_p0_3
  clear hb
  go_wp2_with fail
  refine (eqI_same w23 h_g1.ri h_r1.ri hlen1).mono ?_
  rintro e w24 ⟨rfl, hb⟩
  have hB_w24 : Below w.heap.size w w24 := below2 hB_w23 hb
  have hs_w24 : w23.heap.size ≤ w24.heap.size := hb.size
  replace h_r0 := h_r0.below hb
  replace h_r1 := h_r1.below hb
  replace h_g0 := h_g0.below hb
  replace h_g1 := h_g1.below hb
  replace b_p0_0 := cellB hb b_p0_0
  replace b_p0_1 := cellB hb b_p0_1
  replace b_p0_2 := cellB hb b_p0_2
  replace b_p0_3 := cellB hb b_p0_3
  clear hb
  go_wp2_with fail
  refine (laws_markIntS (1) w24 h_g0 (hlen0) (by omega) (by omega)).mono ?_
  rintro e w25 ⟨rfl, hm, ho⟩
  replace ho : Only (fun b => w10.heap.size ≤ b ∧ b < mid_g) w24 w25 := ho.mono fun q hq => ⟨(h_g0.1.lt q hq).1, h_g0.2 q hq⟩
  have hB_w25 : Below w.heap.size w w25 := hB_w24.trans (ho.below hB_w24.size (fun q hq h3 => by have h4 : w10.heap.size ≤ q ∧ q < mid_g := h3; omega))
  have hs_w25 : w24.heap.size ≤ w25.heap.size := ho.size
  replace h_r0 := h_r0.farI ho (by omega)
  replace h_r1 := h_r1.farI ho (by omega)
  replace h_g1 := h_g1.farI ho (by omega)
  replace b_p0_0 := boxfarI ho b_p0_0 (by show w.heap.size < w10.heap.size ∨ mid_g ≤ w.heap.size; omega)
  replace b_p0_1 := boxfarI ho b_p0_1 (by show w.heap.size < w10.heap.size ∨ mid_g ≤ w.heap.size; omega)
  replace b_p0_2 := boxfarI ho b_p0_2 (by show w.heap.size < w10.heap.size ∨ mid_g ≤ w.heap.size; omega)
  replace b_p0_3 := boxfarI ho b_p0_3 (by show w.heap.size < w10.heap.size ∨ mid_g ≤ w.heap.size; omega)
  clear h_g0 ho
  have h_g0 := hm
  clear hm
  go_wp2_with fail
  refine (laws_markIntS (1 + ((bw ⟨r0_0, r0_1, r0_2, xs0⟩ xs1 xs2).length : Int)) w25 h_g1 (hlen1) (by omega) (by omega)).mono ?_
  rintro e w26 ⟨rfl, hm, ho⟩
  replace ho : Only (fun b => mid_g ≤ b ∧ b < w11.heap.size) w25 w26 := ho.mono fun q hq => ⟨(h_g1.1.lt q hq).1, h_g1.2 q hq⟩
  have hB_w26 : Below w.heap.size w w26 := hB_w25.trans (ho.below hB_w25.size (fun q hq h3 => by have h4 : mid_g ≤ q ∧ q < w11.heap.size := h3; omega))
  have hs_w26 : w25.heap.size ≤ w26.heap.size := ho.size
  replace h_r0 := h_r0.farI ho (by omega)
  replace h_r1 := h_r1.farI ho (by omega)
  replace h_g0 := h_g0.farI ho (by omega)
  replace b_p0_0 := boxfarI ho b_p0_0 (by show w.heap.size < mid_g ∨ w11.heap.size ≤ w.heap.size; omega)
  replace b_p0_1 := boxfarI ho b_p0_1 (by show w.heap.size < mid_g ∨ w11.heap.size ≤ w.heap.size; omega)
  replace b_p0_2 := boxfarI ho b_p0_2 (by show w.heap.size < mid_g ∨ w11.heap.size ≤ w.heap.size; omega)
  replace b_p0_3 := boxfarI ho b_p0_3 (by show w.heap.size < mid_g ∨ w11.heap.size ≤ w.heap.size; omega)
  clear h_g1 ho
  have h_g1 := hm
  clear hm
  go_wp2_with fail
  refine (heldI (1) w26 h_g0 (hlen0) (by omega) (by omega)).mono ?_
  rintro e w' ⟨rfl, rfl⟩
  go_wp2_with fail
  refine (heldI (1 + ((bw ⟨r0_0, r0_1, r0_2, xs0⟩ xs1 xs2).length : Int)) w26 h_g1 (hlen1) (by omega) (by omega)).mono ?_
  rintro e w' ⟨rfl, rfl⟩
  go_wp2_with fail
  refine (laws_toOp r0_0 r0_1 r0_2 w26 (hR0.below (hB_w26)) (hB_w26).size hx0).mono ?_
  rintro e w27 ⟨A_t0, n_t0, c_t0, rfl, h_t0, hb⟩
  have hh : OwI w27 (w26.heap.size) (w27.heap.size) (.slice A_t0 n_t0 c_t0) (xs0) := h_t0
  clear h_t0
  have hB_w27 : Below w.heap.size w w27 := below2 hB_w26 hb
  have hs_w27 : w26.heap.size ≤ w27.heap.size := hb.size
  replace h_r0 := h_r0.below hb
  replace h_r1 := h_r1.below hb
  replace h_g0 := h_g0.below hb
  replace h_g1 := h_g1.below hb
  replace b_p0_0 := cellB hb b_p0_0
  replace b_p0_1 := cellB hb b_p0_1
  replace b_p0_2 := cellB hb b_p0_2
  replace b_p0_3 := cellB hb b_p0_3
  clear hb
  have h_t0 := hh
  clear hh
  go_wp2_with fail
  refine (toI w27 (hR1.below (hB_w27)) (hB_w27).size hx1).mono ?_
  rintro e w28 ⟨A_t1, n_t1, c_t1, rfl, h_t1, hb⟩
  have hh : OwI w28 (w27.heap.size) (w28.heap.size) (.slice A_t1 n_t1 c_t1) (xs1) := h_t1
  clear h_t1
  have hB_w28 : Below w.heap.size w w28 := below2 hB_w27 hb
  have hs_w28 : w27.heap.size ≤ w28.heap.size := hb.size
  replace h_r0 := h_r0.below hb
  replace h_r1 := h_r1.below hb
  replace h_g0 := h_g0.below hb
  replace h_g1 := h_g1.below hb
  replace h_t0 := h_t0.below hb
  replace b_p0_0 := cellB hb b_p0_0
  replace b_p0_1 := cellB hb b_p0_1
  replace b_p0_2 := cellB hb b_p0_2
  replace b_p0_3 := cellB hb b_p0_3
  clear hb
  have h_t1 := hh
  clear hh
  go_wp2_with fail
  refine (toI w28 (hR2.below (hB_w28)) (hB_w28).size hx2).mono ?_
  rintro e w29 ⟨A_t2, n_t2, c_t2, rfl, h_t2, hb⟩
  have hh : OwI w29 (w28.heap.size) (w29.heap.size) (.slice A_t2 n_t2 c_t2) (xs2) := h_t2
  clear h_t2
  have hB_w29 : Below w.heap.size w w29 := below2 hB_w28 hb
  have hs_w29 : w28.heap.size ≤ w29.heap.size := hb.size
  replace h_r0 := h_r0.below hb
  replace h_r1 := h_r1.below hb
  replace h_g0 := h_g0.below hb
  replace h_g1 := h_g1.below hb
  replace h_t0 := h_t0.below hb
  replace h_t1 := h_t1.below hb
  replace b_p0_0 := cellB hb b_p0_0
  replace b_p0_1 := cellB hb b_p0_1
  replace b_p0_2 := cellB hb b_p0_2
  replace b_p0_3 := cellB hb b_p0_3
  clear hb
  have h_t2 := hh
  clear hh
  go_wp2_with fail
  refine (impl_OpBackward r0_0 r0_1 r0_2 w29 h_t0.ri h_t1.ri h_t2.ri (by omega) (by omega) (by omega) (by have := h_t0.ri.1; omega) (by have := h_t1.ri.1; omega) (by have := h_t2.ri.1; omega)).mono ?_
  rintro e w30 ⟨v_h, u_h, mid_h, rfl, hm1_h, hm2_h, h_h0, h_h1, hb⟩
  obtain ⟨A_h0, n_h0, c_h0, rfl, _⟩ := h_h0.rv
  obtain ⟨A_h1, n_h1, c_h1, rfl, _⟩ := h_h1.rv
  have hh_h0 : OwI w30 (w29.heap.size) (mid_h) (.slice A_h0 n_h0 c_h0) (bw ⟨r0_0, r0_1, r0_2, xs0⟩ xs1 xs2) := h_h0
  clear h_h0
  have hh_h1 : OwI w30 (mid_h) (w30.heap.size) (.slice A_h1 n_h1 c_h1) (bwG ⟨r0_0, r0_1, r0_2, xs0⟩ xs1 xs2) := h_h1
  clear h_h1
  have hB_w30 : Below w.heap.size w w30 := below2 hB_w29 hb
  have hs_w30 : w29.heap.size ≤ w30.heap.size := hb.size
  replace h_r0 := h_r0.below hb
  replace h_r1 := h_r1.below hb
  replace h_g0 := h_g0.below hb
  replace h_g1 := h_g1.below hb
  replace h_t0 := h_t0.below hb
  replace h_t1 := h_t1.below hb
  replace h_t2 := h_t2.below hb
  replace b_p0_0 := cellB hb b_p0_0
  replace b_p0_1 := cellB hb b_p0_1
  replace b_p0_2 := cellB hb b_p0_2
  replace b_p0_3 := cellB hb b_p0_3
  clear hb
  have h_h0 := hh_h0
  clear hh_h0
  have h_h1 := hh_h1
  clear hh_h1
  clear h_t0 h_t1 h_t2
  go_wp2_with fail
  refine (eqI_same w30 h_h0.ri h_r0.ri hlen0).mono ?_
  rintro e w31 ⟨rfl, hb⟩
  have hB_w31 : Below w.heap.size w w31 := below2 hB_w30 hb
  have hs_w31 : w30.heap.size ≤ w31.heap.size := hb.size
  replace h_r0 := h_r0.below hb
  replace h_r1 := h_r1.below hb
  replace h_g0 := h_g0.below hb
  replace h_g1 := h_g1.below hb
  replace h_h0 := h_h0.below hb
  replace h_h1 := h_h1.below hb
  replace b_p0_0 := cellB hb b_p0_0
  replace b_p0_1 := cellB hb b_p0_1
  replace b_p0_2 := cellB hb b_p0_2
  replace b_p0_3 := cellB hb b_p0_3
  clear hb
  go_wp2_with fail
  refine (eqI_same w31 h_h1.ri h_r1.ri hlen1).mono ?_
  rintro e w32 ⟨rfl, hb⟩
  have hB_w32 : Below w.heap.size w w32 := below2 hB_w31 hb
  have hs_w32 : w31.heap.size ≤ w32.heap.size := hb.size
  replace h_r0 := h_r0.below hb
  replace h_r1 := h_r1.below hb
  replace h_g0 := h_g0.below hb
  replace h_g1 := h_g1.below hb
  replace h_h0 := h_h0.below hb
  replace h_h1 := h_h1.below hb
  replace b_p0_0 := cellB hb b_p0_0
  replace b_p0_1 := cellB hb b_p0_1
  replace b_p0_2 := cellB hb b_p0_2
  replace b_p0_3 := cellB hb b_p0_3
  clear hb
  go_wp2_with fail
  refine (heldI (1) w32 h_g0 (hlen0) (by omega) (by omega)).mono ?_
  rintro e w' ⟨rfl, rfl⟩
  go_wp2_with fail
  refine (heldI (1 + ((bw ⟨r0_0, r0_1, r0_2, xs0⟩ xs1 xs2).length : Int)) w32 h_g1 (hlen1) (by omega) (by omega)).mono ?_
  rintro e w' ⟨rfl, rfl⟩
  go_wp2_with fail
  go_ret
  exact ⟨rfl, hB_w32⟩
set_option maxRecDepth 100000 in
theorem lifted (os : Os) (started : os.Started) (H : Type) (enc : TypeId × Value → H) :
    ReturnsInHanded {} Try.checked os 5 .any (Rows.fnExactOpBackwardSpec.pre6 enc Try.prog Try.f5 Rows.fnExactOpBackwardRow.domain false) (Rows.fnExactOpBackwardSpec.post enc Try.prog Try.f5 false true false false) := by
  refine law_lifted (C := Try.checked) (f := 5) (fn := Try.f5) (tb := 4) os (by kernel_rfl) started (by kernel_rfl) Try.func5 (by kernel_rfl) (by kernel_rfl) rfl Try.underlying4 rfl (fun H ds h => ?_) H enc
    (ChangeSpec.witness6 (enc := enc) (C := Try.checked) false ⟨#[], #[.agg #[.int .i64 0, .int .i64 0, .int .i64 0, .slice none 0 0], .slice none 0 0, .slice none 0 0], []⟩ 8 (by kernel_rfl) (by kernel_rfl) (by kernel_rfl) (by kernel_rfl)) ?_
  · rw [show Try.f5.params.size = 3 from by kernel_rfl] at h
    match ds, h with
    | [d0, d1, d2], _ => rfl
  intro W base args ds ps hval hA hlt
  have hval : ∀ (j : Nat) t v, Try.f5.params[j]? = some t → args[j]? = some v → Value.okWide Try.prog W .any base t v := hval
  have hA : DataW.TrodAll enc Try.prog W 0 (fun _ => true) true Try.f5.params.toList args.toList ds ps := hA
  rw [Try.params5] at hA hval
  obtain ⟨v0, vs0, d0, ds0, p0, q0, hargs, rfl, rfl, h0, r0⟩ := trodAll_cons hA
  obtain ⟨v1, vs1, d1, ds1, p1, q1, rfl, rfl, rfl, h1, r1⟩ := trodAll_cons r0
  obtain ⟨v2, vs2, d2, ds2, p2, q2, rfl, rfl, rfl, h2, r2⟩ := trodAll_cons r1
  obtain ⟨rfl, rfl, rfl⟩ := trodAll_nil r2
  obtain rfl : args = #[v0, v1, v2] := by cases args; simp_all
  obtain ⟨r0_0, r0_1, r0_2, A0, n0, c0, xs0, rfl, hR0, hN0⟩ := openS3 Try.underlying48 ⟨rfl, rfl⟩ ⟨rfl, rfl⟩ ⟨rfl, rfl⟩ ⟨rfl, rfl⟩ Try.underlying3 Try.underlying25 Try.underlying3 cells_int cells_int (by kernel_rfl) (by kernel_rfl) (hval 0 48 v0 rfl rfl) h0 (fun x hx => hlt x (by simp [hx]))
  obtain ⟨A1, n1, c1, xs1, rfl, hR1⟩ := openI Try.underlying25 Try.underlying3 cells_int (hval 1 25 v1 rfl rfl) h1 (fun x hx => hlt x (by simp [hx]))
  obtain ⟨A2, n2, c2, xs2, rfl, hR2⟩ := openI Try.underlying25 Try.underlying3 cells_int (hval 2 25 v2 rfl rfl) h2 (fun x hx => hlt x (by simp [hx]))
  exact walk W hR0 hN0 hR1 hR2
theorem proved : Rows.FnExactOpBackwardSaid :=
  OpenClaim.holds_of_wide 5 Try.f5 rfl rfl rfl rfl rfl rfl rfl ⟨rfl, rfl, rfl, rfl, rfl⟩ rfl rfl rfl rfl rfl (by kernel_rfl) Try.func5 (by kernel_rfl)
    (of_decide_eq_true (by kernel_rfl)) (by unfold Func.isWrapper; first | (rw [if_pos (by decide +kernel)]; kernel_rfl) | (rw [if_neg (by decide +kernel)]; exact ⟨rfl, rfl⟩))
    (fun os started H enc _ => lifted os started H enc)
#print axioms proved
end Go.Proofs.Ytehfglfbnjdcoaa.fnExactOpBackward
