/-
  PROVED HERE: the law 'laws.FnExactSameGrads' returns true and leaves its arguments as they were, for every input, without a condition.
-/
import Derived.Test.YtehfglfbnjdcoaaRows
import Derived.Test.YtehfglfbnjdcoaaFrame
import Derived.Test.YtehfglfbnjdcoaaOpenR
import Derived.Test.YtehfglfbnjdcoaaOpenM
import Derived.Test.YtehfglfbnjdcoaaOpen
import Derived.Test.YtehfglfbnjdcoaaSameG
import Derived.Test.YtehfglfbnjdcoaaOpenG
import Derived.WalkKit
import Derived.Deep.RegionHeld3
import Derived.ProofKit
import Derived.OpenShut
namespace Go.Proofs.Ytehfglfbnjdcoaa.fnExactSameGrads
open Go.ChangeShapes Go.WideShapes Go.ChangeAt Go.RowKit
set_option maxRecDepth 100000
open Go.ChangeMaps (open_string)
set_option linter.unusedVariables false
theorem cells_int : Try.prog.cellsOf 3 = 1 := by kernel_rfl
set_option maxHeartbeats 4000000 in
set_option maxRecDepth 100000 in
theorem walk (w : World) {A0 : Option Addr} {n0 c0 : Nat} (l0 : Int) (s0 : Bool) {ds0 : List (List Int)} (hR0 : RL 1 w w.heap.size A0 n0 c0 (ds0.flatMap rowF)) (hN0 : (n0 : Int) ≤ 9223372036854775807) (hH0 : ∀ (j : Nat) (l : Nat), (ds0.map fun d => d.length)[j]? = some l → (l : Int) ≤ 9223372036854775807) {A1 : Option Addr} {n1 c1 : Nat} (l1 : Int) (s1 : Bool) {ds1 : List (List Int)} (hR1 : RL 1 w w.heap.size A1 n1 c1 (ds1.flatMap rowF)) (hN1 : (n1 : Int) ≤ 9223372036854775807) (hH1 : ∀ (j : Nat) (l : Nat), (ds1.map fun d => d.length)[j]? = some l → (l : Int) ≤ 9223372036854775807) : Calls Try.prog 9 #[.agg #[.slice A0 n0 c0, .int .i64 l0, .bool s0], .agg #[.slice A1 n1 c1, .int .i64 l1, .bool s1]] w fun e w' => e = .returned (.bool true) ∧ Below w.heap.size w w' := by
  obtain ⟨q0, hq0⟩ : ∃ q, szL n0 (ds0.map fun d => d.length) 1048576 = q := ⟨_, rfl⟩
  have hc0 := szL_case n0 (ds0.map fun d => d.length) 1048576
  rw [hq0] at hc0
  have HQ0 := hide hq0
  clear hq0
  rcases hc0 with rfl | ⟨hq0, hle0, hn0, hk0⟩
  · go_enter Try.func9, Try.ntmps9
    go_wp2_with fail
    obtain ⟨w1, hw0⟩ : ∃ W, W = w.alloc (.cells #[.slice A0 n0 c0, .int .i64 l0, .bool s0] 72) := ⟨_, rfl⟩
    have hb : Below w.heap.size w w1 := hw0 ▸ (Below.refl _ _).alloc (Nat.le_refl _) _
    have hz_p0 : w1.heap.size = w.heap.size + 1 := by rw [hw0]; simp
    have c_0 : w1.cell? ⟨w.heap.size, 0, none⟩ = some (.slice A0 n0 c0) := by rw [hw0]; simp
    have c_1 : w1.cell? ⟨w.heap.size, 1, none⟩ = some (.int .i64 l0) := by rw [hw0]; simp
    have c_2 : w1.cell? ⟨w.heap.size, 2, none⟩ = some (.bool s0) := by rw [hw0]; simp
    have hB_w1 : Below w.heap.size w w1 := hb
    have hs_w1 : w.heap.size ≤ w1.heap.size := hb.size
    clear hb
    have b_p0_0 := c_0
    clear c_0
    have b_p0_1 := c_1
    clear c_1
    have b_p0_2 := c_2
    clear c_2
    obtain ⟨w2, hw1⟩ : ∃ W, W = w1.alloc (.cells #[.slice A1 n1 c1, .int .i64 l1, .bool s1] 72) := ⟨_, rfl⟩
    have hb : Below w1.heap.size w1 w2 := hw1 ▸ (Below.refl _ _).alloc (Nat.le_refl _) _
    have hz_p1 : w2.heap.size = w.heap.size + 1 + 1 := by rw [hw1]; simp [hz_p0]
    have c_0 : w2.cell? ⟨w.heap.size + 1, 0, none⟩ = some (.slice A1 n1 c1) := by rw [hw1, ← hz_p0]; simp
    have c_1 : w2.cell? ⟨w.heap.size + 1, 1, none⟩ = some (.int .i64 l1) := by rw [hw1, ← hz_p0]; simp
    have c_2 : w2.cell? ⟨w.heap.size + 1, 2, none⟩ = some (.bool s1) := by rw [hw1, ← hz_p0]; simp
    have hB_w2 : Below w.heap.size w w2 := below2 hB_w1 hb
    have hs_w2 : w1.heap.size ≤ w2.heap.size := hb.size
    replace b_p0_0 := cellB hb b_p0_0
    replace b_p0_1 := cellB hb b_p0_1
    replace b_p0_2 := cellB hb b_p0_2
    clear hb
    have b_p1_0 := c_0
    clear c_0
    have b_p1_1 := c_1
    clear c_1
    have b_p1_2 := c_2
    clear c_2
    rw [← hw0]
    rw [← hw1]
    clear hw0 hw1
    have HZ := laws_szGrads l0 s0 1048576 w2 (hR0.below (hB_w2)) (hB_w2).size (by omega) (by omega) hN0 hH0
    rw [HQ0.out] at HZ
    refine HZ.mono ?_
    clear HZ
    rintro e w3 ⟨rfl, hb⟩
    have hB_w3 : Below w.heap.size w w3 := below2 hB_w2 hb
    have hs_w3 : w2.heap.size ≤ w3.heap.size := hb.size
    replace b_p0_0 := cellB hb b_p0_0
    replace b_p0_1 := cellB hb b_p0_1
    replace b_p0_2 := cellB hb b_p0_2
    replace b_p1_0 := cellB hb b_p1_0
    replace b_p1_1 := cellB hb b_p1_1
    replace b_p1_2 := cellB hb b_p1_2
    clear hb
    go_wp2_with fail
    go_ret
    exact ⟨rfl, hB_w3⟩
  obtain ⟨q1, hq1⟩ : ∃ q, szL n1 (ds1.map fun d => d.length) q0 = q := ⟨_, rfl⟩
  have hc1 := szL_case n1 (ds1.map fun d => d.length) q0
  rw [hq1] at hc1
  have HQ1 := hide hq1
  clear hq1
  rcases hc1 with rfl | ⟨hq1, hle1, hn1, hk1⟩
  · go_enter Try.func9, Try.ntmps9
    go_wp2_with fail
    obtain ⟨w1, hw0⟩ : ∃ W, W = w.alloc (.cells #[.slice A0 n0 c0, .int .i64 l0, .bool s0] 72) := ⟨_, rfl⟩
    have hb : Below w.heap.size w w1 := hw0 ▸ (Below.refl _ _).alloc (Nat.le_refl _) _
    have hz_p0 : w1.heap.size = w.heap.size + 1 := by rw [hw0]; simp
    have c_0 : w1.cell? ⟨w.heap.size, 0, none⟩ = some (.slice A0 n0 c0) := by rw [hw0]; simp
    have c_1 : w1.cell? ⟨w.heap.size, 1, none⟩ = some (.int .i64 l0) := by rw [hw0]; simp
    have c_2 : w1.cell? ⟨w.heap.size, 2, none⟩ = some (.bool s0) := by rw [hw0]; simp
    have hB_w1 : Below w.heap.size w w1 := hb
    have hs_w1 : w.heap.size ≤ w1.heap.size := hb.size
    clear hb
    have b_p0_0 := c_0
    clear c_0
    have b_p0_1 := c_1
    clear c_1
    have b_p0_2 := c_2
    clear c_2
    obtain ⟨w2, hw1⟩ : ∃ W, W = w1.alloc (.cells #[.slice A1 n1 c1, .int .i64 l1, .bool s1] 72) := ⟨_, rfl⟩
    have hb : Below w1.heap.size w1 w2 := hw1 ▸ (Below.refl _ _).alloc (Nat.le_refl _) _
    have hz_p1 : w2.heap.size = w.heap.size + 1 + 1 := by rw [hw1]; simp [hz_p0]
    have c_0 : w2.cell? ⟨w.heap.size + 1, 0, none⟩ = some (.slice A1 n1 c1) := by rw [hw1, ← hz_p0]; simp
    have c_1 : w2.cell? ⟨w.heap.size + 1, 1, none⟩ = some (.int .i64 l1) := by rw [hw1, ← hz_p0]; simp
    have c_2 : w2.cell? ⟨w.heap.size + 1, 2, none⟩ = some (.bool s1) := by rw [hw1, ← hz_p0]; simp
    have hB_w2 : Below w.heap.size w w2 := below2 hB_w1 hb
    have hs_w2 : w1.heap.size ≤ w2.heap.size := hb.size
    replace b_p0_0 := cellB hb b_p0_0
    replace b_p0_1 := cellB hb b_p0_1
    replace b_p0_2 := cellB hb b_p0_2
    clear hb
    have b_p1_0 := c_0
    clear c_0
    have b_p1_1 := c_1
    clear c_1
    have b_p1_2 := c_2
    clear c_2
    rw [← hw0]
    rw [← hw1]
    clear hw0 hw1
    have HZ := laws_szGrads l0 s0 1048576 w2 (hR0.below (hB_w2)) (hB_w2).size (by omega) (by omega) hN0 hH0
    rw [HQ0.out] at HZ
    refine HZ.mono ?_
    clear HZ
    rintro e w3 ⟨rfl, hb⟩
    have hB_w3 : Below w.heap.size w w3 := below2 hB_w2 hb
    have hs_w3 : w2.heap.size ≤ w3.heap.size := hb.size
    replace b_p0_0 := cellB hb b_p0_0
    replace b_p0_1 := cellB hb b_p0_1
    replace b_p0_2 := cellB hb b_p0_2
    replace b_p1_0 := cellB hb b_p1_0
    replace b_p1_1 := cellB hb b_p1_1
    replace b_p1_2 := cellB hb b_p1_2
    clear hb
    go_wp2_with fail
    have HZ := laws_szGrads l1 s1 q0 w3 (hR1.below (hB_w3)) (hB_w3).size (by omega) (by omega) hN1 hH1
    rw [HQ1.out] at HZ
    refine HZ.mono ?_
    clear HZ
    rintro e w4 ⟨rfl, hb⟩
    have hB_w4 : Below w.heap.size w w4 := below2 hB_w3 hb
    have hs_w4 : w3.heap.size ≤ w4.heap.size := hb.size
    replace b_p0_0 := cellB hb b_p0_0
    replace b_p0_1 := cellB hb b_p0_1
    replace b_p0_2 := cellB hb b_p0_2
    replace b_p1_0 := cellB hb b_p1_0
    replace b_p1_1 := cellB hb b_p1_1
    replace b_p1_2 := cellB hb b_p1_2
    clear hb
    go_wp2_with fail
    go_ret
    exact ⟨rfl, hB_w4⟩
  have hx0 : n0 ≤ 1048576 := by omega
  have hsm0 : SmR ds0 := fun j d hj => by have := hk0 j d.length (by rw [List.getElem?_map, hj]; rfl); omega
  have hkk0 := hide hk0
  clear hk0
  have hx1 : n1 ≤ 1048576 := by omega
  have hsm1 : SmR ds1 := fun j d hj => by have := hk1 j d.length (by rw [List.getElem?_map, hj]; rfl); omega
  have hkk1 := hide hk1
  clear hk1
  go_enter Try.func9, Try.ntmps9
  go_wp2_with fail
  obtain ⟨w1, hw0⟩ : ∃ W, W = w.alloc (.cells #[.slice A0 n0 c0, .int .i64 l0, .bool s0] 72) := ⟨_, rfl⟩
  have hb : Below w.heap.size w w1 := hw0 ▸ (Below.refl _ _).alloc (Nat.le_refl _) _
  have hz_p0 : w1.heap.size = w.heap.size + 1 := by rw [hw0]; simp
  have c_0 : w1.cell? ⟨w.heap.size, 0, none⟩ = some (.slice A0 n0 c0) := by rw [hw0]; simp
  have c_1 : w1.cell? ⟨w.heap.size, 1, none⟩ = some (.int .i64 l0) := by rw [hw0]; simp
  have c_2 : w1.cell? ⟨w.heap.size, 2, none⟩ = some (.bool s0) := by rw [hw0]; simp
  have hB_w1 : Below w.heap.size w w1 := hb
  have hs_w1 : w.heap.size ≤ w1.heap.size := hb.size
  clear hb
  have b_p0_0 := c_0
  clear c_0
  have b_p0_1 := c_1
  clear c_1
  have b_p0_2 := c_2
  clear c_2
  obtain ⟨w2, hw1⟩ : ∃ W, W = w1.alloc (.cells #[.slice A1 n1 c1, .int .i64 l1, .bool s1] 72) := ⟨_, rfl⟩
  have hb : Below w1.heap.size w1 w2 := hw1 ▸ (Below.refl _ _).alloc (Nat.le_refl _) _
  have hz_p1 : w2.heap.size = w.heap.size + 1 + 1 := by rw [hw1]; simp [hz_p0]
  have c_0 : w2.cell? ⟨w.heap.size + 1, 0, none⟩ = some (.slice A1 n1 c1) := by rw [hw1, ← hz_p0]; simp
  have c_1 : w2.cell? ⟨w.heap.size + 1, 1, none⟩ = some (.int .i64 l1) := by rw [hw1, ← hz_p0]; simp
  have c_2 : w2.cell? ⟨w.heap.size + 1, 2, none⟩ = some (.bool s1) := by rw [hw1, ← hz_p0]; simp
  have hB_w2 : Below w.heap.size w w2 := below2 hB_w1 hb
  have hs_w2 : w1.heap.size ≤ w2.heap.size := hb.size
  replace b_p0_0 := cellB hb b_p0_0
  replace b_p0_1 := cellB hb b_p0_1
  replace b_p0_2 := cellB hb b_p0_2
  clear hb
  have b_p1_0 := c_0
  clear c_0
  have b_p1_1 := c_1
  clear c_1
  have b_p1_2 := c_2
  clear c_2
  rw [← hw0]
  rw [← hw1]
  clear hw0 hw1
  have HZ := laws_szGrads l0 s0 1048576 w2 (hR0.below (hB_w2)) (hB_w2).size (by omega) (by omega) hN0 hH0
  rw [HQ0.out] at HZ
  refine HZ.mono ?_
  clear HZ
  rintro e w3 ⟨rfl, hb⟩
  have hB_w3 : Below w.heap.size w w3 := below2 hB_w2 hb
  have hs_w3 : w2.heap.size ≤ w3.heap.size := hb.size
  replace b_p0_0 := cellB hb b_p0_0
  replace b_p0_1 := cellB hb b_p0_1
  replace b_p0_2 := cellB hb b_p0_2
  replace b_p1_0 := cellB hb b_p1_0
  replace b_p1_1 := cellB hb b_p1_1
  replace b_p1_2 := cellB hb b_p1_2
  clear hb
  go_wp2_with fail
  have HZ := laws_szGrads l1 s1 q0 w3 (hR1.below (hB_w3)) (hB_w3).size (by omega) (by omega) hN1 hH1
  rw [HQ1.out] at HZ
  refine HZ.mono ?_
  clear HZ
  rintro e w4 ⟨rfl, hb⟩
  have hB_w4 : Below w.heap.size w w4 := below2 hB_w3 hb
  have hs_w4 : w3.heap.size ≤ w4.heap.size := hb.size
  replace b_p0_0 := cellB hb b_p0_0
  replace b_p0_1 := cellB hb b_p0_1
  replace b_p0_2 := cellB hb b_p0_2
  replace b_p1_0 := cellB hb b_p1_0
  replace b_p1_1 := cellB hb b_p1_1
  replace b_p1_2 := cellB hb b_p1_2
  clear hb
  go_wp2_with fail
  have gate0 : True := trivial
  have gate1 : True := trivial
  have gate2 : True := trivial
  go_region_held3 (fun W => W.cell? ⟨w.heap.size, 0, none⟩ = some (.slice A0 n0 c0) ∧ W.cell? ⟨w.heap.size, 1, none⟩ = some (.int .i64 l0) ∧ W.cell? ⟨w.heap.size, 2, none⟩ = some (.bool s0) ∧ W.cell? ⟨w.heap.size + 1, 0, none⟩ = some (.slice A1 n1 c1) ∧ W.cell? ⟨w.heap.size + 1, 1, none⟩ = some (.int .i64 l1) ∧ W.cell? ⟨w.heap.size + 1, 2, none⟩ = some (.bool s1)) (first | exact ⟨b_p0_0, b_p0_1, b_p0_2, b_p1_0, b_p1_1, b_p1_2⟩) (first
    | (clear gate0; go_at_call 48; refine (laws_toGrads l0 s0 w4.drew (hR0.below (hB_w4.drew)) (hB_w4.drew).size hx0 hsm0).mono ?_; rintro e w5 ⟨A_t0, c_t0, rfl, h_t0, hb⟩; have hb := undrew hb; have hh : OwRows w5 (w4.heap.size) (w5.heap.size) (.slice A_t0 n0 c_t0) n0 (ds0.flatMap rowF) := h_t0; clear h_t0; have hB_w5 : Below w.heap.size w w5 := below2 hB_w4 hb; have hs_w5 : w4.heap.size ≤ w5.heap.size := hb.size; replace b_p0_0 := cellB hb b_p0_0; replace b_p0_1 := cellB hb b_p0_1; replace b_p0_2 := cellB hb b_p0_2; replace b_p1_0 := cellB hb b_p1_0; replace b_p1_1 := cellB hb b_p1_1; replace b_p1_2 := cellB hb b_p1_2; clear hb; have h_t0 := hh; clear hh)
    | (clear gate1; go_at_call 48; refine (laws_toGrads l1 s1 w5 (hR1.below (hB_w5)) (hB_w5).size hx1 hsm1).mono ?_; rintro e w6 ⟨A_t1, c_t1, rfl, h_t1, hb⟩; have hh : OwRows w6 (w5.heap.size) (w6.heap.size) (.slice A_t1 n1 c_t1) n1 (ds1.flatMap rowF) := h_t1; clear h_t1; have hB_w6 : Below w.heap.size w w6 := below2 hB_w5 hb; have hs_w6 : w5.heap.size ≤ w6.heap.size := hb.size; replace h_t0 := h_t0.below hb; replace b_p0_0 := cellB hb b_p0_0; replace b_p0_1 := cellB hb b_p0_1; replace b_p0_2 := cellB hb b_p0_2; replace b_p1_0 := cellB hb b_p1_0; replace b_p1_1 := cellB hb b_p1_1; replace b_p1_2 := cellB hb b_p1_2; clear hb; have h_t1 := hh; clear hh)
    | (clear gate2; go_at_call 50; refine (spec_SameGrads l0 l1 s0 s1 w6 h_t0.rl h_t1.rl (by omega) (by omega) hx0 hx1 hsm0 hsm1).mono ?_; rintro e w7 ⟨rfl, hb⟩; have hB_w7 : Below w.heap.size w w7 := below2 hB_w6 hb; have hs_w7 : w6.heap.size ≤ w7.heap.size := hb.size; replace h_t0 := h_t0.below hb; replace h_t1 := h_t1.below hb; replace b_p0_0 := cellB hb b_p0_0; replace b_p0_1 := cellB hb b_p0_1; replace b_p0_2 := cellB hb b_p0_2; replace b_p1_0 := cellB hb b_p1_0; replace b_p1_1 := cellB hb b_p1_1; replace b_p1_2 := cellB hb b_p1_2; clear hb))
  clear h_t0 h_t1
  go_wp2_with fail
  refine (laws_toGrads l0 s0 w7 (hR0.below (hB_w7)) (hB_w7).size hx0 hsm0).mono ?_
  rintro e w8 ⟨A_x0, c_x0, rfl, h_x0, hb⟩
  have hh : OwRows w8 (w7.heap.size) (w8.heap.size) (.slice A_x0 n0 c_x0) n0 (ds0.flatMap rowF) := h_x0
  clear h_x0
  have hB_w8 : Below w.heap.size w w8 := below2 hB_w7 hb
  have hs_w8 : w7.heap.size ≤ w8.heap.size := hb.size
  replace b_p0_0 := cellB hb b_p0_0
  replace b_p0_1 := cellB hb b_p0_1
  replace b_p0_2 := cellB hb b_p0_2
  replace b_p1_0 := cellB hb b_p1_0
  replace b_p1_1 := cellB hb b_p1_1
  replace b_p1_2 := cellB hb b_p1_2
  clear hb
  have h_x0 := hh
  clear hh
  have ba_p0_0 := fun o => cellB ((Below.refl _ _).alloc (Nat.le_refl _) o) b_p0_0
  have ba_p0_1 := fun o => cellB ((Below.refl _ _).alloc (Nat.le_refl _) o) b_p0_1
  have ba_p0_2 := fun o => cellB ((Below.refl _ _).alloc (Nat.le_refl _) o) b_p0_2
  have ba_p1_0 := fun o => cellB ((Below.refl _ _).alloc (Nat.le_refl _) o) b_p1_0
  have ba_p1_1 := fun o => cellB ((Below.refl _ _).alloc (Nat.le_refl _) o) b_p1_1
  have ba_p1_2 := fun o => cellB ((Below.refl _ _).alloc (Nat.le_refl _) o) b_p1_2
  go_wp2_with fail
  clear ba_p0_0 ba_p0_1 ba_p0_2 ba_p1_0 ba_p1_1 ba_p1_2
  obtain ⟨w9, hw⟩ : ∃ W, W = w8.alloc (.cells #[.slice A_x0 n0 c_x0, .int .i64 l0, .bool s0] 32) := ⟨_, rfl⟩
  have hb : Below w8.heap.size w8 w9 := hw ▸ (Below.refl _ _).alloc (Nat.le_refl _) _
  have hz_x0 : w8.heap.size < w9.heap.size := by rw [hw]; simp
  have c_0 : w9.cell? ⟨w8.heap.size, 0, none⟩ = some (.slice A_x0 n0 c_x0) := by rw [hw]; simp
  have c_1 : w9.cell? ⟨w8.heap.size, 1, none⟩ = some (.int .i64 l0) := by rw [hw]; simp
  have c_2 : w9.cell? ⟨w8.heap.size, 2, none⟩ = some (.bool s0) := by rw [hw]; simp
  rw [← hw]
  clear hw
  have hB_w9 : Below w.heap.size w w9 := below2 hB_w8 hb
  have hs_w9 : w8.heap.size ≤ w9.heap.size := hb.size
  replace h_x0 := h_x0.below hb
  replace b_p0_0 := cellB hb b_p0_0
  replace b_p0_1 := cellB hb b_p0_1
  replace b_p0_2 := cellB hb b_p0_2
  replace b_p1_0 := cellB hb b_p1_0
  replace b_p1_1 := cellB hb b_p1_1
  replace b_p1_2 := cellB hb b_p1_2
  clear hb
  have b_x0_0 := c_0
  clear c_0
  have b_x0_1 := c_1
  clear c_1
  have b_x0_2 := c_2
  clear c_2
  refine (laws_toGrads l1 s1 w9 (hR1.below (hB_w9)) (hB_w9).size hx1 hsm1).mono ?_
  rintro e w10 ⟨A_x1, c_x1, rfl, h_x1, hb⟩
  have hh : OwRows w10 (w9.heap.size) (w10.heap.size) (.slice A_x1 n1 c_x1) n1 (ds1.flatMap rowF) := h_x1
  clear h_x1
  have hB_w10 : Below w.heap.size w w10 := below2 hB_w9 hb
  have hs_w10 : w9.heap.size ≤ w10.heap.size := hb.size
  replace h_x0 := h_x0.below hb
  replace b_p0_0 := cellB hb b_p0_0
  replace b_p0_1 := cellB hb b_p0_1
  replace b_p0_2 := cellB hb b_p0_2
  replace b_p1_0 := cellB hb b_p1_0
  replace b_p1_1 := cellB hb b_p1_1
  replace b_p1_2 := cellB hb b_p1_2
  replace b_x0_0 := cellB hb b_x0_0
  replace b_x0_1 := cellB hb b_x0_1
  replace b_x0_2 := cellB hb b_x0_2
  clear hb
  have h_x1 := hh
  clear hh
  have ba_p0_0 := fun o => cellB ((Below.refl _ _).alloc (Nat.le_refl _) o) b_p0_0
  have ba_p0_1 := fun o => cellB ((Below.refl _ _).alloc (Nat.le_refl _) o) b_p0_1
  have ba_p0_2 := fun o => cellB ((Below.refl _ _).alloc (Nat.le_refl _) o) b_p0_2
  have ba_p1_0 := fun o => cellB ((Below.refl _ _).alloc (Nat.le_refl _) o) b_p1_0
  have ba_p1_1 := fun o => cellB ((Below.refl _ _).alloc (Nat.le_refl _) o) b_p1_1
  have ba_p1_2 := fun o => cellB ((Below.refl _ _).alloc (Nat.le_refl _) o) b_p1_2
  have ba_x0_0 := fun o => cellB ((Below.refl _ _).alloc (Nat.le_refl _) o) b_x0_0
  have ba_x0_1 := fun o => cellB ((Below.refl _ _).alloc (Nat.le_refl _) o) b_x0_1
  have ba_x0_2 := fun o => cellB ((Below.refl _ _).alloc (Nat.le_refl _) o) b_x0_2
  go_wp2_with fail
  clear ba_p0_0 ba_p0_1 ba_p0_2 ba_p1_0 ba_p1_1 ba_p1_2 ba_x0_0 ba_x0_1 ba_x0_2
  obtain ⟨w11, hw⟩ : ∃ W, W = w10.alloc (.cells #[.slice A_x1 n1 c_x1, .int .i64 l1, .bool s1] 32) := ⟨_, rfl⟩
  have hb : Below w10.heap.size w10 w11 := hw ▸ (Below.refl _ _).alloc (Nat.le_refl _) _
  have hz_x1 : w10.heap.size < w11.heap.size := by rw [hw]; simp
  have c_0 : w11.cell? ⟨w10.heap.size, 0, none⟩ = some (.slice A_x1 n1 c_x1) := by rw [hw]; simp
  have c_1 : w11.cell? ⟨w10.heap.size, 1, none⟩ = some (.int .i64 l1) := by rw [hw]; simp
  have c_2 : w11.cell? ⟨w10.heap.size, 2, none⟩ = some (.bool s1) := by rw [hw]; simp
  rw [← hw]
  clear hw
  have hB_w11 : Below w.heap.size w w11 := below2 hB_w10 hb
  have hs_w11 : w10.heap.size ≤ w11.heap.size := hb.size
  replace h_x0 := h_x0.below hb
  replace h_x1 := h_x1.below hb
  replace b_p0_0 := cellB hb b_p0_0
  replace b_p0_1 := cellB hb b_p0_1
  replace b_p0_2 := cellB hb b_p0_2
  replace b_p1_0 := cellB hb b_p1_0
  replace b_p1_1 := cellB hb b_p1_1
  replace b_p1_2 := cellB hb b_p1_2
  replace b_x0_0 := cellB hb b_x0_0
  replace b_x0_1 := cellB hb b_x0_1
  replace b_x0_2 := cellB hb b_x0_2
  clear hb
  have b_x1_0 := c_0
  clear c_0
  have b_x1_1 := c_1
  clear c_1
  have b_x1_2 := c_2
  clear c_2
  refine (impl_SameGrads l0 l1 s0 s1 w11 h_x0.rl h_x1.rl (by omega) (by omega) hx0 hx1 hsm0 hsm1).mono ?_
  rintro e w12 ⟨rfl, hb⟩
  have hB_w12 : Below w.heap.size w w12 := below2 hB_w11 hb
  have hs_w12 : w11.heap.size ≤ w12.heap.size := hb.size
  replace h_x0 := h_x0.below hb
  replace h_x1 := h_x1.below hb
  replace b_p0_0 := cellB hb b_p0_0
  replace b_p0_1 := cellB hb b_p0_1
  replace b_p0_2 := cellB hb b_p0_2
  replace b_p1_0 := cellB hb b_p1_0
  replace b_p1_1 := cellB hb b_p1_1
  replace b_p1_2 := cellB hb b_p1_2
  replace b_x0_0 := cellB hb b_x0_0
  replace b_x0_1 := cellB hb b_x0_1
  replace b_x0_2 := cellB hb b_x0_2
  replace b_x1_0 := cellB hb b_x1_0
  replace b_x1_1 := cellB hb b_x1_1
  replace b_x1_2 := cellB hb b_x1_2
  clear hb
  go_wp2_with fail
  have gate0 : True := trivial
  have gate1 : True := trivial
  go_region_held3 (fun W => W.cell? ⟨w.heap.size, 0, none⟩ = some (.slice A0 n0 c0) ∧ W.cell? ⟨w.heap.size, 1, none⟩ = some (.int .i64 l0) ∧ W.cell? ⟨w.heap.size, 2, none⟩ = some (.bool s0) ∧ W.cell? ⟨w.heap.size + 1, 0, none⟩ = some (.slice A1 n1 c1) ∧ W.cell? ⟨w.heap.size + 1, 1, none⟩ = some (.int .i64 l1) ∧ W.cell? ⟨w.heap.size + 1, 2, none⟩ = some (.bool s1) ∧ W.cell? ⟨w8.heap.size, 0, none⟩ = some (.slice A_x0 n0 c_x0) ∧ W.cell? ⟨w8.heap.size, 1, none⟩ = some (.int .i64 l0) ∧ W.cell? ⟨w8.heap.size, 2, none⟩ = some (.bool s0) ∧ W.cell? ⟨w10.heap.size, 0, none⟩ = some (.slice A_x1 n1 c_x1) ∧ W.cell? ⟨w10.heap.size, 1, none⟩ = some (.int .i64 l1) ∧ W.cell? ⟨w10.heap.size, 2, none⟩ = some (.bool s1)) (first | exact ⟨b_p0_0, b_p0_1, b_p0_2, b_p1_0, b_p1_1, b_p1_2, b_x0_0, b_x0_1, b_x0_2, b_x1_0, b_x1_1, b_x1_2⟩) (first
    | (clear gate0; go_at_call 48; refine (laws_toGrads l0 s0 w12.drew (hR0.below (hB_w12.drew)) (hB_w12.drew).size hx0 hsm0).mono ?_; rintro e w13 ⟨A_y, c_y, rfl, h_y, hb⟩; have hb := undrew hb; have hh : OwRows w13 (w12.heap.size) (w13.heap.size) (.slice A_y n0 c_y) n0 (ds0.flatMap rowF) := h_y; clear h_y; have hB_w13 : Below w.heap.size w w13 := below2 hB_w12 hb; have hs_w13 : w12.heap.size ≤ w13.heap.size := hb.size; replace h_x0 := h_x0.below hb; replace h_x1 := h_x1.below hb; replace b_p0_0 := cellB hb b_p0_0; replace b_p0_1 := cellB hb b_p0_1; replace b_p0_2 := cellB hb b_p0_2; replace b_p1_0 := cellB hb b_p1_0; replace b_p1_1 := cellB hb b_p1_1; replace b_p1_2 := cellB hb b_p1_2; replace b_x0_0 := cellB hb b_x0_0; replace b_x0_1 := cellB hb b_x0_1; replace b_x0_2 := cellB hb b_x0_2; replace b_x1_0 := cellB hb b_x1_0; replace b_x1_1 := cellB hb b_x1_1; replace b_x1_2 := cellB hb b_x1_2; clear hb; have h_y := hh; clear hh)
    | (clear gate1; go_at_call 20; refine (laws_eqGrads l0 s0 w13 h_x0.rl h_y.rl (by omega) (by omega) hx0 hsm0).mono ?_; rintro e w14 ⟨rfl, hb⟩; have hB_w14 : Below w.heap.size w w14 := below2 hB_w13 hb; have hs_w14 : w13.heap.size ≤ w14.heap.size := hb.size; replace h_x0 := h_x0.below hb; replace h_x1 := h_x1.below hb; replace h_y := h_y.below hb; replace b_p0_0 := cellB hb b_p0_0; replace b_p0_1 := cellB hb b_p0_1; replace b_p0_2 := cellB hb b_p0_2; replace b_p1_0 := cellB hb b_p1_0; replace b_p1_1 := cellB hb b_p1_1; replace b_p1_2 := cellB hb b_p1_2; replace b_x0_0 := cellB hb b_x0_0; replace b_x0_1 := cellB hb b_x0_1; replace b_x0_2 := cellB hb b_x0_2; replace b_x1_0 := cellB hb b_x1_0; replace b_x1_1 := cellB hb b_x1_1; replace b_x1_2 := cellB hb b_x1_2; clear hb))
  clear h_y
  go_wp2_with fail
  have gate0 : True := trivial
  have gate1 : True := trivial
  go_region_held3 (fun W => W.cell? ⟨w.heap.size, 0, none⟩ = some (.slice A0 n0 c0) ∧ W.cell? ⟨w.heap.size, 1, none⟩ = some (.int .i64 l0) ∧ W.cell? ⟨w.heap.size, 2, none⟩ = some (.bool s0) ∧ W.cell? ⟨w.heap.size + 1, 0, none⟩ = some (.slice A1 n1 c1) ∧ W.cell? ⟨w.heap.size + 1, 1, none⟩ = some (.int .i64 l1) ∧ W.cell? ⟨w.heap.size + 1, 2, none⟩ = some (.bool s1) ∧ W.cell? ⟨w8.heap.size, 0, none⟩ = some (.slice A_x0 n0 c_x0) ∧ W.cell? ⟨w8.heap.size, 1, none⟩ = some (.int .i64 l0) ∧ W.cell? ⟨w8.heap.size, 2, none⟩ = some (.bool s0) ∧ W.cell? ⟨w10.heap.size, 0, none⟩ = some (.slice A_x1 n1 c_x1) ∧ W.cell? ⟨w10.heap.size, 1, none⟩ = some (.int .i64 l1) ∧ W.cell? ⟨w10.heap.size, 2, none⟩ = some (.bool s1)) (first | exact ⟨b_p0_0, b_p0_1, b_p0_2, b_p1_0, b_p1_1, b_p1_2, b_x0_0, b_x0_1, b_x0_2, b_x1_0, b_x1_1, b_x1_2⟩) (first
    | (clear gate0; go_at_call 48; refine (laws_toGrads l1 s1 w14.drew (hR1.below (hB_w14.drew)) (hB_w14.drew).size hx1 hsm1).mono ?_; rintro e w15 ⟨A_y, c_y, rfl, h_y, hb⟩; have hb := undrew hb; have hh : OwRows w15 (w14.heap.size) (w15.heap.size) (.slice A_y n1 c_y) n1 (ds1.flatMap rowF) := h_y; clear h_y; have hB_w15 : Below w.heap.size w w15 := below2 hB_w14 hb; have hs_w15 : w14.heap.size ≤ w15.heap.size := hb.size; replace h_x0 := h_x0.below hb; replace h_x1 := h_x1.below hb; replace b_p0_0 := cellB hb b_p0_0; replace b_p0_1 := cellB hb b_p0_1; replace b_p0_2 := cellB hb b_p0_2; replace b_p1_0 := cellB hb b_p1_0; replace b_p1_1 := cellB hb b_p1_1; replace b_p1_2 := cellB hb b_p1_2; replace b_x0_0 := cellB hb b_x0_0; replace b_x0_1 := cellB hb b_x0_1; replace b_x0_2 := cellB hb b_x0_2; replace b_x1_0 := cellB hb b_x1_0; replace b_x1_1 := cellB hb b_x1_1; replace b_x1_2 := cellB hb b_x1_2; clear hb; have h_y := hh; clear hh)
    | (clear gate1; go_at_call 20; refine (laws_eqGrads l1 s1 w15 h_x1.rl h_y.rl (by omega) (by omega) hx1 hsm1).mono ?_; rintro e w16 ⟨rfl, hb⟩; have hB_w16 : Below w.heap.size w w16 := below2 hB_w15 hb; have hs_w16 : w15.heap.size ≤ w16.heap.size := hb.size; replace h_x0 := h_x0.below hb; replace h_x1 := h_x1.below hb; replace h_y := h_y.below hb; replace b_p0_0 := cellB hb b_p0_0; replace b_p0_1 := cellB hb b_p0_1; replace b_p0_2 := cellB hb b_p0_2; replace b_p1_0 := cellB hb b_p1_0; replace b_p1_1 := cellB hb b_p1_1; replace b_p1_2 := cellB hb b_p1_2; replace b_x0_0 := cellB hb b_x0_0; replace b_x0_1 := cellB hb b_x0_1; replace b_x0_2 := cellB hb b_x0_2; replace b_x1_0 := cellB hb b_x1_0; replace b_x1_1 := cellB hb b_x1_1; replace b_x1_2 := cellB hb b_x1_2; clear hb))
  clear h_y
  go_wp2_with fail
  go_ret
  exact ⟨rfl, hB_w16⟩
set_option maxRecDepth 100000 in
theorem lifted (os : Os) (started : os.Started) (H : Type) (enc : TypeId × Value → H) :
    ReturnsInHanded {} Try.checked os 9 .any (Rows.fnExactSameGradsSpec.pre6 enc Try.prog Try.f9 Rows.fnExactSameGradsRow.domain false) (Rows.fnExactSameGradsSpec.post enc Try.prog Try.f9 false true false false) := by
  refine law_lifted (C := Try.checked) (f := 9) (fn := Try.f9) (tb := 4) os (by kernel_rfl) started (by kernel_rfl) Try.func9 (by kernel_rfl) (by kernel_rfl) rfl Try.underlying4 rfl (fun H ds h => ?_) H enc
    (ChangeSpec.witness6 (enc := enc) (C := Try.checked) false ⟨#[], #[.agg #[.slice none 0 0, .int .i64 0, .bool false], .agg #[.slice none 0 0, .int .i64 0, .bool false]], []⟩ 8 (by kernel_rfl) (by kernel_rfl) (by kernel_rfl) (by kernel_rfl)) ?_
  · rw [show Try.f9.params.size = 2 from by kernel_rfl] at h
    match ds, h with
    | [d0, d1], _ => rfl
  intro W base args ds ps hval hA hlt
  have hval : ∀ (j : Nat) t v, Try.f9.params[j]? = some t → args[j]? = some v → Value.okWide Try.prog W .any base t v := hval
  have hA : DataW.TrodAll enc Try.prog W 0 (fun _ => true) true Try.f9.params.toList args.toList ds ps := hA
  rw [Try.params9] at hA hval
  obtain ⟨v0, vs0, d0, ds0, p0, q0, hargs, rfl, rfl, h0, r0⟩ := trodAll_cons hA
  obtain ⟨v1, vs1, d1, ds1, p1, q1, rfl, rfl, rfl, h1, r1⟩ := trodAll_cons r0
  obtain ⟨rfl, rfl, rfl⟩ := trodAll_nil r1
  obtain rfl : args = #[v0, v1] := by cases args; simp_all
  obtain ⟨A0, n0, c0, l0, s0, ds0, rfl, hR0, hN0, hG0⟩ := openGrads (hval 0 72 v0 rfl rfl) h0 (fun x hx => hlt x (by simp [hx]))
  obtain ⟨A1, n1, c1, l1, s1, ds1, rfl, hR1, hN1, hG1⟩ := openGrads (hval 1 72 v1 rfl rfl) h1 (fun x hx => hlt x (by simp [hx]))
  exact walk W l0 s0 hR0 hN0 (fun j l hj => by rw [List.getElem?_map] at hj; obtain ⟨d, hd, rfl⟩ := Option.map_eq_some_iff.1 hj; exact hG0 j d hd) l1 s1 hR1 hN1 (fun j l hj => by rw [List.getElem?_map] at hj; obtain ⟨d, hd, rfl⟩ := Option.map_eq_some_iff.1 hj; exact hG1 j d hd)
theorem proved : Rows.FnExactSameGradsSaid :=
  OpenClaim.holds_of_wide 9 Try.f9 rfl rfl rfl rfl rfl rfl rfl ⟨rfl, rfl, rfl, rfl, rfl⟩ rfl rfl rfl rfl rfl (by kernel_rfl) Try.func9 (by kernel_rfl)
    (of_decide_eq_true (by kernel_rfl)) (by unfold Func.isWrapper; first | (rw [if_pos (by decide +kernel)]; kernel_rfl) | (rw [if_neg (by decide +kernel)]; exact ⟨rfl, rfl⟩))
    (fun os started H enc _ => lifted os started H enc)
#print axioms proved
end Go.Proofs.Ytehfglfbnjdcoaa.fnExactSameGrads
