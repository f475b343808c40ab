/-
  PROVED HERE: the law 'laws.FnExactSameOp' returns true and leaves its arguments as they were, for every input, without a condition.
-/
import Derived.Test.YtjaejhhmcpmcfaaRows
import Derived.Test.YtjaejhhmcpmcfaaFrame
import Derived.Test.YtjaejhhmcpmcfaaOpenM
import Derived.Test.YtjaejhhmcpmcfaaOpen
import Derived.Test.YtjaejhhmcpmcfaaOp
import Derived.WalkKit
import Derived.Deep.RegionHeld3
import Derived.ProofKit
import Derived.OpenShut
namespace Go.Proofs.Ytjaejhhmcpmcfaa.fnExactSameOp
open Go.ChangeShapes Go.WideShapes Go.ChangeAt Go.RowKit
open Go.ChangeMaps (open_string)
set_option linter.unusedVariables false
theorem cells_int : Try.prog.cellsOf 3 = 1 := by kernel_rfl
set_option maxHeartbeats 4000000 in
set_option maxRecDepth 100000 in
theorem walk (w : World) {r0_0 r0_1 r0_2 : Int} {A0 : Option Addr} {n0 c0 : Nat} {xs0 : List Int} (hR0 : RI w w.heap.size A0 n0 c0 xs0) (hN0 : (n0 : Int) ≤ 9223372036854775807) {r1_0 r1_1 r1_2 : Int} {A1 : Option Addr} {n1 c1 : Nat} {xs1 : List Int} (hR1 : RI w w.heap.size A1 n1 c1 xs1) (hN1 : (n1 : Int) ≤ 9223372036854775807) : Calls Try.prog 9 #[.agg #[.int .i64 r0_0, .int .i64 r0_1, .int .i64 r0_2, .slice A0 n0 c0], .agg #[.int .i64 r1_0, .int .i64 r1_1, .int .i64 r1_2, .slice A1 n1 c1]] w fun e w' => e = .returned (.bool true) ∧ Below w.heap.size w w' := by
  obtain ⟨q0, hq0⟩ : ∃ q, szF n0 1048576 = q := ⟨_, rfl⟩
  have hc0 := szF_case n0 1048576
  rw [hq0] at hc0
  have HQ0 := hide hq0
  clear hq0
  rcases hc0 with rfl | ⟨hq0, hn0, hk0⟩
  · go_enter Try.func9, Try.ntmps9
    go_wp2_with fail
    obtain ⟨w1, hw0⟩ : ∃ W, W = w.alloc (.cells #[.int .i64 r0_0, .int .i64 r0_1, .int .i64 r0_2, .slice A0 n0 c0] 39) := ⟨_, rfl⟩
    have hb : Below w.heap.size w w1 := hw0 ▸ (Below.refl _ _).alloc (Nat.le_refl _) _
    have hz_p0 : w1.heap.size = w.heap.size + 1 := by rw [hw0]; simp
    have c_0 : w1.cell? ⟨w.heap.size, 0, none⟩ = some (.int .i64 r0_0) := by rw [hw0]; simp
    have c_1 : w1.cell? ⟨w.heap.size, 1, none⟩ = some (.int .i64 r0_1) := by rw [hw0]; simp
    have c_2 : w1.cell? ⟨w.heap.size, 2, none⟩ = some (.int .i64 r0_2) := by rw [hw0]; simp
    have c_3 : w1.cell? ⟨w.heap.size, 3, none⟩ = some (.slice A0 n0 c0) := by rw [hw0]; simp
    have hB_w1 : Below w.heap.size w w1 := hb
    have hs_w1 : w.heap.size ≤ w1.heap.size := hb.size
    clear hb
    have b_p0_0 := c_0
    clear c_0
    have b_p0_1 := c_1
    clear c_1
    have b_p0_2 := c_2
    clear c_2
    have b_p0_3 := c_3
    clear c_3
    obtain ⟨w2, hw1⟩ : ∃ W, W = w1.alloc (.cells #[.int .i64 r1_0, .int .i64 r1_1, .int .i64 r1_2, .slice A1 n1 c1] 39) := ⟨_, rfl⟩
    have hb : Below w1.heap.size w1 w2 := hw1 ▸ (Below.refl _ _).alloc (Nat.le_refl _) _
    have hz_p1 : w2.heap.size = w.heap.size + 1 + 1 := by rw [hw1]; simp [hz_p0]
    have c_0 : w2.cell? ⟨w.heap.size + 1, 0, none⟩ = some (.int .i64 r1_0) := by rw [hw1, ← hz_p0]; simp
    have c_1 : w2.cell? ⟨w.heap.size + 1, 1, none⟩ = some (.int .i64 r1_1) := by rw [hw1, ← hz_p0]; simp
    have c_2 : w2.cell? ⟨w.heap.size + 1, 2, none⟩ = some (.int .i64 r1_2) := by rw [hw1, ← hz_p0]; simp
    have c_3 : w2.cell? ⟨w.heap.size + 1, 3, none⟩ = some (.slice A1 n1 c1) := by rw [hw1, ← hz_p0]; simp
    have hB_w2 : Below w.heap.size w w2 := below2 hB_w1 hb
    have hs_w2 : w1.heap.size ≤ w2.heap.size := hb.size
    replace b_p0_0 := cellB hb b_p0_0
    replace b_p0_1 := cellB hb b_p0_1
    replace b_p0_2 := cellB hb b_p0_2
    replace b_p0_3 := cellB hb b_p0_3
    clear hb
    have b_p1_0 := c_0
    clear c_0
    have b_p1_1 := c_1
    clear c_1
    have b_p1_2 := c_2
    clear c_2
    have b_p1_3 := c_3
    clear c_3
    rw [← hw0]
    rw [← hw1]
    clear hw0 hw1
    have HZ := laws_szOp r0_0 r0_1 r0_2 A0 n0 c0 1048576 w2 (by omega) (by omega) hN0
    rw [HQ0.out] at HZ
    refine HZ.mono ?_
    clear HZ
    rintro e w3 ⟨rfl, hb⟩
    have hB_w3 : Below w.heap.size w w3 := below2 hB_w2 hb
    have hs_w3 : w2.heap.size ≤ w3.heap.size := hb.size
    replace b_p0_0 := cellB hb b_p0_0
    replace b_p0_1 := cellB hb b_p0_1
    replace b_p0_2 := cellB hb b_p0_2
    replace b_p0_3 := cellB hb b_p0_3
    replace b_p1_0 := cellB hb b_p1_0
    replace b_p1_1 := cellB hb b_p1_1
    replace b_p1_2 := cellB hb b_p1_2
    replace b_p1_3 := cellB hb b_p1_3
    clear hb
    go_wp2_with fail
    go_ret
    exact ⟨rfl, hB_w3⟩
  obtain ⟨q1, hq1⟩ : ∃ q, szF n1 q0 = q := ⟨_, rfl⟩
  have hc1 := szF_case n1 q0
  rw [hq1] at hc1
  have HQ1 := hide hq1
  clear hq1
  rcases hc1 with rfl | ⟨hq1, hn1, hk1⟩
  · go_enter Try.func9, Try.ntmps9
    go_wp2_with fail
    obtain ⟨w1, hw0⟩ : ∃ W, W = w.alloc (.cells #[.int .i64 r0_0, .int .i64 r0_1, .int .i64 r0_2, .slice A0 n0 c0] 39) := ⟨_, rfl⟩
    have hb : Below w.heap.size w w1 := hw0 ▸ (Below.refl _ _).alloc (Nat.le_refl _) _
    have hz_p0 : w1.heap.size = w.heap.size + 1 := by rw [hw0]; simp
    have c_0 : w1.cell? ⟨w.heap.size, 0, none⟩ = some (.int .i64 r0_0) := by rw [hw0]; simp
    have c_1 : w1.cell? ⟨w.heap.size, 1, none⟩ = some (.int .i64 r0_1) := by rw [hw0]; simp
    have c_2 : w1.cell? ⟨w.heap.size, 2, none⟩ = some (.int .i64 r0_2) := by rw [hw0]; simp
    have c_3 : w1.cell? ⟨w.heap.size, 3, none⟩ = some (.slice A0 n0 c0) := by rw [hw0]; simp
    have hB_w1 : Below w.heap.size w w1 := hb
    have hs_w1 : w.heap.size ≤ w1.heap.size := hb.size
    clear hb
    have b_p0_0 := c_0
    clear c_0
    have b_p0_1 := c_1
    clear c_1
    have b_p0_2 := c_2
    clear c_2
    have b_p0_3 := c_3
    clear c_3
    obtain ⟨w2, hw1⟩ : ∃ W, W = w1.alloc (.cells #[.int .i64 r1_0, .int .i64 r1_1, .int .i64 r1_2, .slice A1 n1 c1] 39) := ⟨_, rfl⟩
    have hb : Below w1.heap.size w1 w2 := hw1 ▸ (Below.refl _ _).alloc (Nat.le_refl _) _
    have hz_p1 : w2.heap.size = w.heap.size + 1 + 1 := by rw [hw1]; simp [hz_p0]
    have c_0 : w2.cell? ⟨w.heap.size + 1, 0, none⟩ = some (.int .i64 r1_0) := by rw [hw1, ← hz_p0]; simp
    have c_1 : w2.cell? ⟨w.heap.size + 1, 1, none⟩ = some (.int .i64 r1_1) := by rw [hw1, ← hz_p0]; simp
    have c_2 : w2.cell? ⟨w.heap.size + 1, 2, none⟩ = some (.int .i64 r1_2) := by rw [hw1, ← hz_p0]; simp
    have c_3 : w2.cell? ⟨w.heap.size + 1, 3, none⟩ = some (.slice A1 n1 c1) := by rw [hw1, ← hz_p0]; simp
    have hB_w2 : Below w.heap.size w w2 := below2 hB_w1 hb
    have hs_w2 : w1.heap.size ≤ w2.heap.size := hb.size
    replace b_p0_0 := cellB hb b_p0_0
    replace b_p0_1 := cellB hb b_p0_1
    replace b_p0_2 := cellB hb b_p0_2
    replace b_p0_3 := cellB hb b_p0_3
    clear hb
    have b_p1_0 := c_0
    clear c_0
    have b_p1_1 := c_1
    clear c_1
    have b_p1_2 := c_2
    clear c_2
    have b_p1_3 := c_3
    clear c_3
    rw [← hw0]
    rw [← hw1]
    clear hw0 hw1
    have HZ := laws_szOp r0_0 r0_1 r0_2 A0 n0 c0 1048576 w2 (by omega) (by omega) hN0
    rw [HQ0.out] at HZ
    refine HZ.mono ?_
    clear HZ
    rintro e w3 ⟨rfl, hb⟩
    have hB_w3 : Below w.heap.size w w3 := below2 hB_w2 hb
    have hs_w3 : w2.heap.size ≤ w3.heap.size := hb.size
    replace b_p0_0 := cellB hb b_p0_0
    replace b_p0_1 := cellB hb b_p0_1
    replace b_p0_2 := cellB hb b_p0_2
    replace b_p0_3 := cellB hb b_p0_3
    replace b_p1_0 := cellB hb b_p1_0
    replace b_p1_1 := cellB hb b_p1_1
    replace b_p1_2 := cellB hb b_p1_2
    replace b_p1_3 := cellB hb b_p1_3
    clear hb
    go_wp2_with fail
    have HZ := laws_szOp r1_0 r1_1 r1_2 A1 n1 c1 q0 w3 (by omega) (by omega) hN1
    rw [HQ1.out] at HZ
    refine HZ.mono ?_
    clear HZ
    rintro e w4 ⟨rfl, hb⟩
    have hB_w4 : Below w.heap.size w w4 := below2 hB_w3 hb
    have hs_w4 : w3.heap.size ≤ w4.heap.size := hb.size
    replace b_p0_0 := cellB hb b_p0_0
    replace b_p0_1 := cellB hb b_p0_1
    replace b_p0_2 := cellB hb b_p0_2
    replace b_p0_3 := cellB hb b_p0_3
    replace b_p1_0 := cellB hb b_p1_0
    replace b_p1_1 := cellB hb b_p1_1
    replace b_p1_2 := cellB hb b_p1_2
    replace b_p1_3 := cellB hb b_p1_3
    clear hb
    go_wp2_with fail
    go_ret
    exact ⟨rfl, hB_w4⟩
  have hx0 : xs0.length ≤ 1048576 := by have := hR0.1; omega
  have hx1 : xs1.length ≤ 1048576 := by have := hR1.1; omega
  go_enter Try.func9, Try.ntmps9
  go_wp2_with fail
  obtain ⟨w1, hw0⟩ : ∃ W, W = w.alloc (.cells #[.int .i64 r0_0, .int .i64 r0_1, .int .i64 r0_2, .slice A0 n0 c0] 39) := ⟨_, rfl⟩
  have hb : Below w.heap.size w w1 := hw0 ▸ (Below.refl _ _).alloc (Nat.le_refl _) _
  have hz_p0 : w1.heap.size = w.heap.size + 1 := by rw [hw0]; simp
  have c_0 : w1.cell? ⟨w.heap.size, 0, none⟩ = some (.int .i64 r0_0) := by rw [hw0]; simp
  have c_1 : w1.cell? ⟨w.heap.size, 1, none⟩ = some (.int .i64 r0_1) := by rw [hw0]; simp
  have c_2 : w1.cell? ⟨w.heap.size, 2, none⟩ = some (.int .i64 r0_2) := by rw [hw0]; simp
  have c_3 : w1.cell? ⟨w.heap.size, 3, none⟩ = some (.slice A0 n0 c0) := by rw [hw0]; simp
  have hB_w1 : Below w.heap.size w w1 := hb
  have hs_w1 : w.heap.size ≤ w1.heap.size := hb.size
  clear hb
  have b_p0_0 := c_0
  clear c_0
  have b_p0_1 := c_1
  clear c_1
  have b_p0_2 := c_2
  clear c_2
  have b_p0_3 := c_3
  clear c_3
  obtain ⟨w2, hw1⟩ : ∃ W, W = w1.alloc (.cells #[.int .i64 r1_0, .int .i64 r1_1, .int .i64 r1_2, .slice A1 n1 c1] 39) := ⟨_, rfl⟩
  have hb : Below w1.heap.size w1 w2 := hw1 ▸ (Below.refl _ _).alloc (Nat.le_refl _) _
  have hz_p1 : w2.heap.size = w.heap.size + 1 + 1 := by rw [hw1]; simp [hz_p0]
  have c_0 : w2.cell? ⟨w.heap.size + 1, 0, none⟩ = some (.int .i64 r1_0) := by rw [hw1, ← hz_p0]; simp
  have c_1 : w2.cell? ⟨w.heap.size + 1, 1, none⟩ = some (.int .i64 r1_1) := by rw [hw1, ← hz_p0]; simp
  have c_2 : w2.cell? ⟨w.heap.size + 1, 2, none⟩ = some (.int .i64 r1_2) := by rw [hw1, ← hz_p0]; simp
  have c_3 : w2.cell? ⟨w.heap.size + 1, 3, none⟩ = some (.slice A1 n1 c1) := by rw [hw1, ← hz_p0]; simp
  have hB_w2 : Below w.heap.size w w2 := below2 hB_w1 hb
  have hs_w2 : w1.heap.size ≤ w2.heap.size := hb.size
  replace b_p0_0 := cellB hb b_p0_0
  replace b_p0_1 := cellB hb b_p0_1
  replace b_p0_2 := cellB hb b_p0_2
  replace b_p0_3 := cellB hb b_p0_3
  clear hb
  have b_p1_0 := c_0
  clear c_0
  have b_p1_1 := c_1
  clear c_1
  have b_p1_2 := c_2
  clear c_2
  have b_p1_3 := c_3
  clear c_3
  rw [← hw0]
  rw [← hw1]
  clear hw0 hw1
  have HZ := laws_szOp r0_0 r0_1 r0_2 A0 n0 c0 1048576 w2 (by omega) (by omega) hN0
  rw [HQ0.out] at HZ
  refine HZ.mono ?_
  clear HZ
  rintro e w3 ⟨rfl, hb⟩
  have hB_w3 : Below w.heap.size w w3 := below2 hB_w2 hb
  have hs_w3 : w2.heap.size ≤ w3.heap.size := hb.size
  replace b_p0_0 := cellB hb b_p0_0
  replace b_p0_1 := cellB hb b_p0_1
  replace b_p0_2 := cellB hb b_p0_2
  replace b_p0_3 := cellB hb b_p0_3
  replace b_p1_0 := cellB hb b_p1_0
  replace b_p1_1 := cellB hb b_p1_1
  replace b_p1_2 := cellB hb b_p1_2
  replace b_p1_3 := cellB hb b_p1_3
  clear hb
  go_wp2_with fail
  have HZ := laws_szOp r1_0 r1_1 r1_2 A1 n1 c1 q0 w3 (by omega) (by omega) hN1
  rw [HQ1.out] at HZ
  refine HZ.mono ?_
  clear HZ
  rintro e w4 ⟨rfl, hb⟩
  have hB_w4 : Below w.heap.size w w4 := below2 hB_w3 hb
  have hs_w4 : w3.heap.size ≤ w4.heap.size := hb.size
  replace b_p0_0 := cellB hb b_p0_0
  replace b_p0_1 := cellB hb b_p0_1
  replace b_p0_2 := cellB hb b_p0_2
  replace b_p0_3 := cellB hb b_p0_3
  replace b_p1_0 := cellB hb b_p1_0
  replace b_p1_1 := cellB hb b_p1_1
  replace b_p1_2 := cellB hb b_p1_2
  replace b_p1_3 := cellB hb b_p1_3
  clear hb
  go_wp2_with fail
  have gate0 : True := trivial
  have gate1 : True := trivial
  have gate2 : True := trivial
  go_region_held3 (fun W => W.cell? ⟨w.heap.size, 0, none⟩ = some (.int .i64 r0_0) ∧ W.cell? ⟨w.heap.size, 1, none⟩ = some (.int .i64 r0_1) ∧ W.cell? ⟨w.heap.size, 2, none⟩ = some (.int .i64 r0_2) ∧ W.cell? ⟨w.heap.size, 3, none⟩ = some (.slice A0 n0 c0) ∧ W.cell? ⟨w.heap.size + 1, 0, none⟩ = some (.int .i64 r1_0) ∧ W.cell? ⟨w.heap.size + 1, 1, none⟩ = some (.int .i64 r1_1) ∧ W.cell? ⟨w.heap.size + 1, 2, none⟩ = some (.int .i64 r1_2) ∧ W.cell? ⟨w.heap.size + 1, 3, none⟩ = some (.slice A1 n1 c1)) (first | exact ⟨b_p0_0, b_p0_1, b_p0_2, b_p0_3, b_p1_0, b_p1_1, b_p1_2, b_p1_3⟩) (first
    | (clear gate0; go_at_call 31; refine (laws_toOp r0_0 r0_1 r0_2 w4.drew (hR0.below (hB_w4.drew)) (hB_w4.drew).size hx0).mono ?_; rintro e w5 ⟨A_t0, n_t0, c_t0, rfl, h_t0, hb⟩; have hb := undrew hb; have hh : OwI w5 w4.heap.size w5.heap.size (.slice A_t0 n_t0 c_t0) xs0 := h_t0; clear h_t0; have hB_w5 : Below w.heap.size w w5 := below2 hB_w4 hb; have hs_w5 : w4.heap.size ≤ w5.heap.size := hb.size; replace b_p0_0 := cellB hb b_p0_0; replace b_p0_1 := cellB hb b_p0_1; replace b_p0_2 := cellB hb b_p0_2; replace b_p0_3 := cellB hb b_p0_3; replace b_p1_0 := cellB hb b_p1_0; replace b_p1_1 := cellB hb b_p1_1; replace b_p1_2 := cellB hb b_p1_2; replace b_p1_3 := cellB hb b_p1_3; clear hb; have h_t0 := hh; clear hh)
    | (clear gate1; go_at_call 31; refine (laws_toOp r1_0 r1_1 r1_2 w5 (hR1.below (hB_w5)) (hB_w5).size hx1).mono ?_; rintro e w6 ⟨A_t1, n_t1, c_t1, rfl, h_t1, hb⟩; have hB_w6 : Below w.heap.size w w6 := below2 hB_w5 hb; have hs_w6 : w5.heap.size ≤ w6.heap.size := hb.size; replace h_t0 := h_t0.below hb; replace b_p0_0 := cellB hb b_p0_0; replace b_p0_1 := cellB hb b_p0_1; replace b_p0_2 := cellB hb b_p0_2; replace b_p0_3 := cellB hb b_p0_3; replace b_p1_0 := cellB hb b_p1_0; replace b_p1_1 := cellB hb b_p1_1; replace b_p1_2 := cellB hb b_p1_2; replace b_p1_3 := cellB hb b_p1_3; clear hb)
    | (clear gate2; go_at_call 38; refine (spec_SameOp r0_0 r0_1 r0_2 r1_0 r1_1 r1_2 w6 h_t0.ri h_t1.ri (by omega) (by omega) (by have := h_t0.ri.1; omega) (by have := h_t1.ri.1; omega)).mono ?_; rintro e w7 ⟨rfl, hb⟩; have hB_w7 : Below w.heap.size w w7 := below2 hB_w6 hb; have hs_w7 : w6.heap.size ≤ w7.heap.size := hb.size; replace h_t0 := h_t0.below hb; replace h_t1 := h_t1.below hb; replace b_p0_0 := cellB hb b_p0_0; replace b_p0_1 := cellB hb b_p0_1; replace b_p0_2 := cellB hb b_p0_2; replace b_p0_3 := cellB hb b_p0_3; replace b_p1_0 := cellB hb b_p1_0; replace b_p1_1 := cellB hb b_p1_1; replace b_p1_2 := cellB hb b_p1_2; replace b_p1_3 := cellB hb b_p1_3; clear hb))
  clear h_t0 h_t1
  go_wp2_with fail
  refine (laws_toOp r0_0 r0_1 r0_2 w7 (hR0.below (hB_w7)) (hB_w7).size hx0).mono ?_
  rintro e w8 ⟨A_x0, n_x0, c_x0, rfl, h_x0, hb⟩
  have hB_w8 : Below w.heap.size w w8 := below2 hB_w7 hb
  have hs_w8 : w7.heap.size ≤ w8.heap.size := hb.size
  replace b_p0_0 := cellB hb b_p0_0
  replace b_p0_1 := cellB hb b_p0_1
  replace b_p0_2 := cellB hb b_p0_2
  replace b_p0_3 := cellB hb b_p0_3
  replace b_p1_0 := cellB hb b_p1_0
  replace b_p1_1 := cellB hb b_p1_1
  replace b_p1_2 := cellB hb b_p1_2
  replace b_p1_3 := cellB hb b_p1_3
  clear hb
  have ba_p0_0 := fun o => cellB ((Below.refl _ _).alloc (Nat.le_refl _) o) b_p0_0
  have ba_p0_1 := fun o => cellB ((Below.refl _ _).alloc (Nat.le_refl _) o) b_p0_1
  have ba_p0_2 := fun o => cellB ((Below.refl _ _).alloc (Nat.le_refl _) o) b_p0_2
  have ba_p0_3 := fun o => cellB ((Below.refl _ _).alloc (Nat.le_refl _) o) b_p0_3
  have ba_p1_0 := fun o => cellB ((Below.refl _ _).alloc (Nat.le_refl _) o) b_p1_0
  have ba_p1_1 := fun o => cellB ((Below.refl _ _).alloc (Nat.le_refl _) o) b_p1_1
  have ba_p1_2 := fun o => cellB ((Below.refl _ _).alloc (Nat.le_refl _) o) b_p1_2
  have ba_p1_3 := fun o => cellB ((Below.refl _ _).alloc (Nat.le_refl _) o) b_p1_3
  go_wp2_with fail
  clear ba_p0_0 ba_p0_1 ba_p0_2 ba_p0_3 ba_p1_0 ba_p1_1 ba_p1_2 ba_p1_3
  obtain ⟨w9, hw⟩ : ∃ W, W = w8.alloc (.cells #[.int .i64 r0_0, .int .i64 r0_1, .int .i64 r0_2, .slice A_x0 n_x0 c_x0] 42) := ⟨_, rfl⟩
  have hb : Below w8.heap.size w8 w9 := hw ▸ (Below.refl _ _).alloc (Nat.le_refl _) _
  have hz_x0 : w8.heap.size < w9.heap.size := by rw [hw]; simp
  have c_0 : w9.cell? ⟨w8.heap.size, 0, none⟩ = some (.int .i64 r0_0) := by rw [hw]; simp
  have c_1 : w9.cell? ⟨w8.heap.size, 1, none⟩ = some (.int .i64 r0_1) := by rw [hw]; simp
  have c_2 : w9.cell? ⟨w8.heap.size, 2, none⟩ = some (.int .i64 r0_2) := by rw [hw]; simp
  have c_3 : w9.cell? ⟨w8.heap.size, 3, none⟩ = some (.slice A_x0 n_x0 c_x0) := by rw [hw]; simp
  rw [← hw]
  clear hw
  have hB_w9 : Below w.heap.size w w9 := below2 hB_w8 hb
  have hs_w9 : w8.heap.size ≤ w9.heap.size := hb.size
  replace h_x0 := h_x0.below hb
  replace b_p0_0 := cellB hb b_p0_0
  replace b_p0_1 := cellB hb b_p0_1
  replace b_p0_2 := cellB hb b_p0_2
  replace b_p0_3 := cellB hb b_p0_3
  replace b_p1_0 := cellB hb b_p1_0
  replace b_p1_1 := cellB hb b_p1_1
  replace b_p1_2 := cellB hb b_p1_2
  replace b_p1_3 := cellB hb b_p1_3
  clear hb
  have b_x0_0 := c_0
  clear c_0
  have b_x0_1 := c_1
  clear c_1
  have b_x0_2 := c_2
  clear c_2
  have b_x0_3 := c_3
  clear c_3
  refine (laws_toOp r1_0 r1_1 r1_2 w9 (hR1.below (hB_w9)) (hB_w9).size hx1).mono ?_
  rintro e w10 ⟨A_x1, n_x1, c_x1, rfl, h_x1, hb⟩
  have hB_w10 : Below w.heap.size w w10 := below2 hB_w9 hb
  have hs_w10 : w9.heap.size ≤ w10.heap.size := hb.size
  replace h_x0 := h_x0.below hb
  replace b_p0_0 := cellB hb b_p0_0
  replace b_p0_1 := cellB hb b_p0_1
  replace b_p0_2 := cellB hb b_p0_2
  replace b_p0_3 := cellB hb b_p0_3
  replace b_p1_0 := cellB hb b_p1_0
  replace b_p1_1 := cellB hb b_p1_1
  replace b_p1_2 := cellB hb b_p1_2
  replace b_p1_3 := cellB hb b_p1_3
  replace b_x0_0 := cellB hb b_x0_0
  replace b_x0_1 := cellB hb b_x0_1
  replace b_x0_2 := cellB hb b_x0_2
  replace b_x0_3 := cellB hb b_x0_3
  clear hb
  have ba_p0_0 := fun o => cellB ((Below.refl _ _).alloc (Nat.le_refl _) o) b_p0_0
  have ba_p0_1 := fun o => cellB ((Below.refl _ _).alloc (Nat.le_refl _) o) b_p0_1
  have ba_p0_2 := fun o => cellB ((Below.refl _ _).alloc (Nat.le_refl _) o) b_p0_2
  have ba_p0_3 := fun o => cellB ((Below.refl _ _).alloc (Nat.le_refl _) o) b_p0_3
  have ba_p1_0 := fun o => cellB ((Below.refl _ _).alloc (Nat.le_refl _) o) b_p1_0
  have ba_p1_1 := fun o => cellB ((Below.refl _ _).alloc (Nat.le_refl _) o) b_p1_1
  have ba_p1_2 := fun o => cellB ((Below.refl _ _).alloc (Nat.le_refl _) o) b_p1_2
  have ba_p1_3 := fun o => cellB ((Below.refl _ _).alloc (Nat.le_refl _) o) b_p1_3
  have ba_x0_0 := fun o => cellB ((Below.refl _ _).alloc (Nat.le_refl _) o) b_x0_0
  have ba_x0_1 := fun o => cellB ((Below.refl _ _).alloc (Nat.le_refl _) o) b_x0_1
  have ba_x0_2 := fun o => cellB ((Below.refl _ _).alloc (Nat.le_refl _) o) b_x0_2
  have ba_x0_3 := fun o => cellB ((Below.refl _ _).alloc (Nat.le_refl _) o) b_x0_3
  go_wp2_with fail
  clear ba_p0_0 ba_p0_1 ba_p0_2 ba_p0_3 ba_p1_0 ba_p1_1 ba_p1_2 ba_p1_3 ba_x0_0 ba_x0_1 ba_x0_2 ba_x0_3
  obtain ⟨w11, hw⟩ : ∃ W, W = w10.alloc (.cells #[.int .i64 r1_0, .int .i64 r1_1, .int .i64 r1_2, .slice A_x1 n_x1 c_x1] 42) := ⟨_, rfl⟩
  have hb : Below w10.heap.size w10 w11 := hw ▸ (Below.refl _ _).alloc (Nat.le_refl _) _
  have hz_x1 : w10.heap.size < w11.heap.size := by rw [hw]; simp
  have c_0 : w11.cell? ⟨w10.heap.size, 0, none⟩ = some (.int .i64 r1_0) := by rw [hw]; simp
  have c_1 : w11.cell? ⟨w10.heap.size, 1, none⟩ = some (.int .i64 r1_1) := by rw [hw]; simp
  have c_2 : w11.cell? ⟨w10.heap.size, 2, none⟩ = some (.int .i64 r1_2) := by rw [hw]; simp
  have c_3 : w11.cell? ⟨w10.heap.size, 3, none⟩ = some (.slice A_x1 n_x1 c_x1) := by rw [hw]; simp
  rw [← hw]
  clear hw
  have hB_w11 : Below w.heap.size w w11 := below2 hB_w10 hb
  have hs_w11 : w10.heap.size ≤ w11.heap.size := hb.size
  replace h_x0 := h_x0.below hb
  replace h_x1 := h_x1.below hb
  replace b_p0_0 := cellB hb b_p0_0
  replace b_p0_1 := cellB hb b_p0_1
  replace b_p0_2 := cellB hb b_p0_2
  replace b_p0_3 := cellB hb b_p0_3
  replace b_p1_0 := cellB hb b_p1_0
  replace b_p1_1 := cellB hb b_p1_1
  replace b_p1_2 := cellB hb b_p1_2
  replace b_p1_3 := cellB hb b_p1_3
  replace b_x0_0 := cellB hb b_x0_0
  replace b_x0_1 := cellB hb b_x0_1
  replace b_x0_2 := cellB hb b_x0_2
  replace b_x0_3 := cellB hb b_x0_3
  clear hb
  have b_x1_0 := c_0
  clear c_0
  have b_x1_1 := c_1
  clear c_1
  have b_x1_2 := c_2
  clear c_2
  have b_x1_3 := c_3
  clear c_3
  refine (impl_SameOp r0_0 r0_1 r0_2 r1_0 r1_1 r1_2 w11 h_x0.ri h_x1.ri (by omega) (by omega) (by have := h_x0.ri.1; omega) (by have := h_x1.ri.1; omega)).mono ?_
  rintro e w12 ⟨rfl, hb⟩
  have hB_w12 : Below w.heap.size w w12 := below2 hB_w11 hb
  have hs_w12 : w11.heap.size ≤ w12.heap.size := hb.size
  replace h_x0 := h_x0.below hb
  replace h_x1 := h_x1.below hb
  replace b_p0_0 := cellB hb b_p0_0
  replace b_p0_1 := cellB hb b_p0_1
  replace b_p0_2 := cellB hb b_p0_2
  replace b_p0_3 := cellB hb b_p0_3
  replace b_p1_0 := cellB hb b_p1_0
  replace b_p1_1 := cellB hb b_p1_1
  replace b_p1_2 := cellB hb b_p1_2
  replace b_p1_3 := cellB hb b_p1_3
  replace b_x0_0 := cellB hb b_x0_0
  replace b_x0_1 := cellB hb b_x0_1
  replace b_x0_2 := cellB hb b_x0_2
  replace b_x0_3 := cellB hb b_x0_3
  replace b_x1_0 := cellB hb b_x1_0
  replace b_x1_1 := cellB hb b_x1_1
  replace b_x1_2 := cellB hb b_x1_2
  replace b_x1_3 := cellB hb b_x1_3
  clear hb
  go_wp2_with fail
  have gate0 : True := trivial
  have gate1 : True := trivial
  go_region_held3 (fun W => W.cell? ⟨w.heap.size, 0, none⟩ = some (.int .i64 r0_0) ∧ W.cell? ⟨w.heap.size, 1, none⟩ = some (.int .i64 r0_1) ∧ W.cell? ⟨w.heap.size, 2, none⟩ = some (.int .i64 r0_2) ∧ W.cell? ⟨w.heap.size, 3, none⟩ = some (.slice A0 n0 c0) ∧ W.cell? ⟨w.heap.size + 1, 0, none⟩ = some (.int .i64 r1_0) ∧ W.cell? ⟨w.heap.size + 1, 1, none⟩ = some (.int .i64 r1_1) ∧ W.cell? ⟨w.heap.size + 1, 2, none⟩ = some (.int .i64 r1_2) ∧ W.cell? ⟨w.heap.size + 1, 3, none⟩ = some (.slice A1 n1 c1) ∧ W.cell? ⟨w8.heap.size, 0, none⟩ = some (.int .i64 r0_0) ∧ W.cell? ⟨w8.heap.size, 1, none⟩ = some (.int .i64 r0_1) ∧ W.cell? ⟨w8.heap.size, 2, none⟩ = some (.int .i64 r0_2) ∧ W.cell? ⟨w8.heap.size, 3, none⟩ = some (.slice A_x0 n_x0 c_x0) ∧ W.cell? ⟨w10.heap.size, 0, none⟩ = some (.int .i64 r1_0) ∧ W.cell? ⟨w10.heap.size, 1, none⟩ = some (.int .i64 r1_1) ∧ W.cell? ⟨w10.heap.size, 2, none⟩ = some (.int .i64 r1_2) ∧ W.cell? ⟨w10.heap.size, 3, none⟩ = some (.slice A_x1 n_x1 c_x1)) (first | exact ⟨b_p0_0, b_p0_1, b_p0_2, b_p0_3, b_p1_0, b_p1_1, b_p1_2, b_p1_3, b_x0_0, b_x0_1, b_x0_2, b_x0_3, b_x1_0, b_x1_1, b_x1_2, b_x1_3⟩) (first
    | (clear gate0; go_at_call 31; refine (laws_toOp r0_0 r0_1 r0_2 w12.drew (hR0.below (hB_w12.drew)) (hB_w12.drew).size hx0).mono ?_; rintro e w13 ⟨A_y, n_y, c_y, rfl, h_y, hb⟩; have hb := undrew hb; have hh : OwI w13 w12.heap.size w13.heap.size (.slice A_y n_y c_y) xs0 := h_y; clear h_y; have hB_w13 : Below w.heap.size w w13 := below2 hB_w12 hb; have hs_w13 : w12.heap.size ≤ w13.heap.size := hb.size; replace h_x0 := h_x0.below hb; replace h_x1 := h_x1.below hb; replace b_p0_0 := cellB hb b_p0_0; replace b_p0_1 := cellB hb b_p0_1; replace b_p0_2 := cellB hb b_p0_2; replace b_p0_3 := cellB hb b_p0_3; replace b_p1_0 := cellB hb b_p1_0; replace b_p1_1 := cellB hb b_p1_1; replace b_p1_2 := cellB hb b_p1_2; replace b_p1_3 := cellB hb b_p1_3; replace b_x0_0 := cellB hb b_x0_0; replace b_x0_1 := cellB hb b_x0_1; replace b_x0_2 := cellB hb b_x0_2; replace b_x0_3 := cellB hb b_x0_3; replace b_x1_0 := cellB hb b_x1_0; replace b_x1_1 := cellB hb b_x1_1; replace b_x1_2 := cellB hb b_x1_2; replace b_x1_3 := cellB hb b_x1_3; clear hb; have h_y := hh; clear hh)
    | (clear gate1; go_at_call 33; refine (laws_eqOp r0_0 r0_1 r0_2 w13 h_x0.ri h_y.ri (by omega) (by omega) hx0).mono ?_; rintro e w14 ⟨rfl, hb⟩; have hB_w14 : Below w.heap.size w w14 := below2 hB_w13 hb; have hs_w14 : w13.heap.size ≤ w14.heap.size := hb.size; replace h_x0 := h_x0.below hb; replace h_x1 := h_x1.below hb; replace h_y := h_y.below hb; replace b_p0_0 := cellB hb b_p0_0; replace b_p0_1 := cellB hb b_p0_1; replace b_p0_2 := cellB hb b_p0_2; replace b_p0_3 := cellB hb b_p0_3; replace b_p1_0 := cellB hb b_p1_0; replace b_p1_1 := cellB hb b_p1_1; replace b_p1_2 := cellB hb b_p1_2; replace b_p1_3 := cellB hb b_p1_3; replace b_x0_0 := cellB hb b_x0_0; replace b_x0_1 := cellB hb b_x0_1; replace b_x0_2 := cellB hb b_x0_2; replace b_x0_3 := cellB hb b_x0_3; replace b_x1_0 := cellB hb b_x1_0; replace b_x1_1 := cellB hb b_x1_1; replace b_x1_2 := cellB hb b_x1_2; replace b_x1_3 := cellB hb b_x1_3; clear hb))
  clear h_y
  go_wp2_with fail
  have gate0 : True := trivial
  have gate1 : True := trivial
  go_region_held3 (fun W => W.cell? ⟨w.heap.size, 0, none⟩ = some (.int .i64 r0_0) ∧ W.cell? ⟨w.heap.size, 1, none⟩ = some (.int .i64 r0_1) ∧ W.cell? ⟨w.heap.size, 2, none⟩ = some (.int .i64 r0_2) ∧ W.cell? ⟨w.heap.size, 3, none⟩ = some (.slice A0 n0 c0) ∧ W.cell? ⟨w.heap.size + 1, 0, none⟩ = some (.int .i64 r1_0) ∧ W.cell? ⟨w.heap.size + 1, 1, none⟩ = some (.int .i64 r1_1) ∧ W.cell? ⟨w.heap.size + 1, 2, none⟩ = some (.int .i64 r1_2) ∧ W.cell? ⟨w.heap.size + 1, 3, none⟩ = some (.slice A1 n1 c1) ∧ W.cell? ⟨w8.heap.size, 0, none⟩ = some (.int .i64 r0_0) ∧ W.cell? ⟨w8.heap.size, 1, none⟩ = some (.int .i64 r0_1) ∧ W.cell? ⟨w8.heap.size, 2, none⟩ = some (.int .i64 r0_2) ∧ W.cell? ⟨w8.heap.size, 3, none⟩ = some (.slice A_x0 n_x0 c_x0) ∧ W.cell? ⟨w10.heap.size, 0, none⟩ = some (.int .i64 r1_0) ∧ W.cell? ⟨w10.heap.size, 1, none⟩ = some (.int .i64 r1_1) ∧ W.cell? ⟨w10.heap.size, 2, none⟩ = some (.int .i64 r1_2) ∧ W.cell? ⟨w10.heap.size, 3, none⟩ = some (.slice A_x1 n_x1 c_x1)) (first | exact ⟨b_p0_0, b_p0_1, b_p0_2, b_p0_3, b_p1_0, b_p1_1, b_p1_2, b_p1_3, b_x0_0, b_x0_1, b_x0_2, b_x0_3, b_x1_0, b_x1_1, b_x1_2, b_x1_3⟩) (first
    | (clear gate0; go_at_call 31; refine (laws_toOp r1_0 r1_1 r1_2 w14.drew (hR1.below (hB_w14.drew)) (hB_w14.drew).size hx1).mono ?_; rintro e w15 ⟨A_y, n_y, c_y, rfl, h_y, hb⟩; have hb := undrew hb; have hh : OwI w15 w14.heap.size w15.heap.size (.slice A_y n_y c_y) xs1 := h_y; clear h_y; have hB_w15 : Below w.heap.size w w15 := below2 hB_w14 hb; have hs_w15 : w14.heap.size ≤ w15.heap.size := hb.size; replace h_x0 := h_x0.below hb; replace h_x1 := h_x1.below hb; replace b_p0_0 := cellB hb b_p0_0; replace b_p0_1 := cellB hb b_p0_1; replace b_p0_2 := cellB hb b_p0_2; replace b_p0_3 := cellB hb b_p0_3; replace b_p1_0 := cellB hb b_p1_0; replace b_p1_1 := cellB hb b_p1_1; replace b_p1_2 := cellB hb b_p1_2; replace b_p1_3 := cellB hb b_p1_3; replace b_x0_0 := cellB hb b_x0_0; replace b_x0_1 := cellB hb b_x0_1; replace b_x0_2 := cellB hb b_x0_2; replace b_x0_3 := cellB hb b_x0_3; replace b_x1_0 := cellB hb b_x1_0; replace b_x1_1 := cellB hb b_x1_1; replace b_x1_2 := cellB hb b_x1_2; replace b_x1_3 := cellB hb b_x1_3; clear hb; have h_y := hh; clear hh)
    | (clear gate1; go_at_call 33; refine (laws_eqOp r1_0 r1_1 r1_2 w15 h_x1.ri h_y.ri (by omega) (by omega) hx1).mono ?_; rintro e w16 ⟨rfl, hb⟩; have hB_w16 : Below w.heap.size w w16 := below2 hB_w15 hb; have hs_w16 : w15.heap.size ≤ w16.heap.size := hb.size; replace h_x0 := h_x0.below hb; replace h_x1 := h_x1.below hb; replace h_y := h_y.below hb; replace b_p0_0 := cellB hb b_p0_0; replace b_p0_1 := cellB hb b_p0_1; replace b_p0_2 := cellB hb b_p0_2; replace b_p0_3 := cellB hb b_p0_3; replace b_p1_0 := cellB hb b_p1_0; replace b_p1_1 := cellB hb b_p1_1; replace b_p1_2 := cellB hb b_p1_2; replace b_p1_3 := cellB hb b_p1_3; replace b_x0_0 := cellB hb b_x0_0; replace b_x0_1 := cellB hb b_x0_1; replace b_x0_2 := cellB hb b_x0_2; replace b_x0_3 := cellB hb b_x0_3; replace b_x1_0 := cellB hb b_x1_0; replace b_x1_1 := cellB hb b_x1_1; replace b_x1_2 := cellB hb b_x1_2; replace b_x1_3 := cellB hb b_x1_3; clear hb))
  clear h_y
  go_wp2_with fail
  go_ret
  exact ⟨rfl, hB_w16⟩
set_option maxRecDepth 100000 in
theorem lifted (os : Os) (started : os.Started) (H : Type) (enc : TypeId × Value → H) :
    ReturnsInHanded {} Try.checked os 9 .any (Rows.fnExactSameOpSpec.pre6 enc Try.prog Try.f9 Rows.fnExactSameOpRow.domain false) (Rows.fnExactSameOpSpec.post enc Try.prog Try.f9 false true false false) := by
  refine law_lifted (C := Try.checked) (f := 9) (fn := Try.f9) (tb := 4) os (by kernel_rfl) started (by kernel_rfl) Try.func9 (by kernel_rfl) (by kernel_rfl) rfl Try.underlying4 rfl (fun H ds h => ?_) H enc
    (ChangeSpec.witness6 (enc := enc) (C := Try.checked) false ⟨#[], #[.agg #[.int .i64 0, .int .i64 0, .int .i64 0, .slice none 0 0], .agg #[.int .i64 0, .int .i64 0, .int .i64 0, .slice none 0 0]], []⟩ 8 (by kernel_rfl) (by kernel_rfl) (by kernel_rfl) (by kernel_rfl)) ?_
  · rw [show Try.f9.params.size = 2 from by kernel_rfl] at h
    match ds, h with
    | [d0, d1], _ => rfl
  intro W base args ds ps hval hA hlt
  have hval : ∀ (j : Nat) t v, Try.f9.params[j]? = some t → args[j]? = some v → Value.okWide Try.prog W .any base t v := hval
  have hA : DataW.TrodAll enc Try.prog W 0 (fun _ => true) true Try.f9.params.toList args.toList ds ps := hA
  rw [Try.params9] at hA hval
  obtain ⟨v0, vs0, d0, ds0, p0, q0, hargs, rfl, rfl, h0, r0⟩ := trodAll_cons hA
  obtain ⟨v1, vs1, d1, ds1, p1, q1, rfl, rfl, rfl, h1, r1⟩ := trodAll_cons r0
  obtain ⟨rfl, rfl, rfl⟩ := trodAll_nil r1
  obtain rfl : args = #[v0, v1] := by cases args; simp_all
  obtain ⟨r0_0, r0_1, r0_2, A0, n0, c0, xs0, rfl, hR0, hN0⟩ := openS3 Try.underlying39 ⟨rfl, rfl⟩ ⟨rfl, rfl⟩ ⟨rfl, rfl⟩ ⟨rfl, rfl⟩ Try.underlying3 Try.underlying22 Try.underlying3 cells_int cells_int (by kernel_rfl) (by kernel_rfl) (hval 0 39 v0 rfl rfl) h0 (fun x hx => hlt x (by simp [hx]))
  obtain ⟨r1_0, r1_1, r1_2, A1, n1, c1, xs1, rfl, hR1, hN1⟩ := openS3 Try.underlying39 ⟨rfl, rfl⟩ ⟨rfl, rfl⟩ ⟨rfl, rfl⟩ ⟨rfl, rfl⟩ Try.underlying3 Try.underlying22 Try.underlying3 cells_int cells_int (by kernel_rfl) (by kernel_rfl) (hval 1 39 v1 rfl rfl) h1 (fun x hx => hlt x (by simp [hx]))
  exact walk W hR0 hN0 hR1 hN1
theorem proved : Rows.FnExactSameOpSaid :=
  OpenClaim.holds_of_wide 9 Try.f9 rfl rfl rfl rfl rfl rfl rfl ⟨rfl, rfl, rfl, rfl, rfl⟩ rfl rfl rfl rfl rfl (by kernel_rfl) Try.func9 (by kernel_rfl)
    (of_decide_eq_true (by kernel_rfl)) (by unfold Func.isWrapper; first | (rw [if_pos (by decide +kernel)]; kernel_rfl) | (rw [if_neg (by decide +kernel)]; exact ⟨rfl, rfl⟩))
    (fun os started H enc _ => lifted os started H enc)
#print axioms proved
end Go.Proofs.Ytjaejhhmcpmcfaa.fnExactSameOp
