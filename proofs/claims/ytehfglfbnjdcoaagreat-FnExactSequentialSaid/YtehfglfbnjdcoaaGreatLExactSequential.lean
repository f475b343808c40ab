/-
  PROVED HERE: the law 'laws.FnExactSequential' returns true and leaves its arguments as they were, for every input, without a condition.
-/
import Derived.Test.YtehfglfbnjdcoaaGreatRows
import Derived.Test.YtehfglfbnjdcoaaGreatFrame
import Derived.Test.YtehfglfbnjdcoaaGreatOpenR
import Derived.Test.YtehfglfbnjdcoaaGreatOpenM
import Derived.Test.YtehfglfbnjdcoaaGreatOpen
import Derived.Test.YtehfglfbnjdcoaaGreatSeqA
import Derived.Test.YtehfglfbnjdcoaaGreatMkN
import Derived.Test.YtehfglfbnjdcoaaGreatMarkO
import Derived.Test.YtehfglfbnjdcoaaGreatOpenG
import Derived.Test.YtehfglfbnjdcoaaGreatPairS
import Derived.WalkKit
import Derived.Deep.RegionHeld3
import Derived.ProofKit
import Derived.OpenShut
namespace Go.Proofs.YtehfglfbnjdcoaaGreat.fnExactSequential
open Go.ChangeShapes Go.WideShapes Go.ChangeAt Go.RowKit
set_option maxRecDepth 100000
open Go.ChangeMaps (open_string)
set_option linter.unusedVariables false
theorem cells_int : Tryz.prog.cellsOf 3 = 1 := by kernel_rfl
set_option maxHeartbeats 8000000 in
set_option maxRecDepth 100000 in
theorem walk (w : World) {A0 : Option Addr} {n0 c0 : Nat} {ds0 : List OpD} (hR0 : RL 4 w w.heap.size A0 n0 c0 (ds0.flatMap opF)) (hN0 : (n0 : Int) ≤ 9223372036854775807) (hH0 : ∀ (j : Nat) (l : Nat), (ds0.map fun d => d.p.length)[j]? = some l → (l : Int) ≤ 9223372036854775807) {A1 : Option Addr} {n1 c1 : Nat} {ds1 : List PrD} (hR1 : RL 2 w w.heap.size A1 n1 c1 (ds1.flatMap prF)) (hN1 : (n1 : Int) ≤ 9223372036854775807) (hH1 : ∀ (j : Nat) (l : Nat), (lensP ds1)[j]? = some l → (l : Int) ≤ 9223372036854775807) : Calls Tryz.prog 3 #[.agg #[.slice A0 n0 c0], .slice A1 n1 c1] w fun e w' => e = .returned (.bool true) ∧ Below w.heap.size w w' := by
  obtain ⟨q0, hq0⟩ : ∃ q, szL n0 (ds0.map fun d => d.p.length) 1048576 = q := ⟨_, rfl⟩
  have hc0 := szL_case n0 (ds0.map fun d => d.p.length) 1048576
  rw [hq0] at hc0
  have HQ0 := hide hq0
  clear hq0
  rcases hc0 with rfl | ⟨hq0, hle0, hn0, hk0⟩
  · go_enter Tryz.func3, Tryz.ntmps3
    go_wp2_with fail
    obtain ⟨w1, hw0⟩ : ∃ W, W = w.alloc (.cells #[.slice A0 n0 c0] 24) := ⟨_, rfl⟩
    have hb : Below w.heap.size w w1 := hw0 ▸ (Below.refl _ _).alloc (Nat.le_refl _) _
    have hz_p0 : w1.heap.size = w.heap.size + 1 := by rw [hw0]; simp
    have c_0 : w1.cell? ⟨w.heap.size, 0, none⟩ = some (.slice A0 n0 c0) := by rw [hw0]; simp
    have hB_w1 : Below w.heap.size w w1 := hb
    have hs_w1 : w.heap.size ≤ w1.heap.size := hb.size
    clear hb
    have b_p0_0 := c_0
    clear c_0
    rw [← hw0]
    clear hw0
    have HZ := laws_szModel 1048576 w1 (hR0.below (hB_w1)) (hB_w1).size (by omega) (by omega) hN0 hH0
    rw [HQ0.out] at HZ
    refine HZ.mono ?_
    clear HZ
    rintro e w2 ⟨rfl, hb⟩
    have hB_w2 : Below w.heap.size w w2 := below2 hB_w1 hb
    have hs_w2 : w1.heap.size ≤ w2.heap.size := hb.size
    replace b_p0_0 := cellB hb b_p0_0
    clear hb
    go_wp2_with fail
    go_ret
    exact ⟨rfl, hB_w2⟩
  obtain ⟨q1, hq1⟩ : ∃ q, szL n1 (lensP ds1) q0 = q := ⟨_, rfl⟩
  have hc1 := szL_case n1 (lensP ds1) q0
  rw [hq1] at hc1
  have HQ1 := hide hq1
  clear hq1
  rcases hc1 with rfl | ⟨hq1, hle1, hn1, hk1⟩
  · go_enter Tryz.func3, Tryz.ntmps3
    go_wp2_with fail
    obtain ⟨w1, hw0⟩ : ∃ W, W = w.alloc (.cells #[.slice A0 n0 c0] 24) := ⟨_, rfl⟩
    have hb : Below w.heap.size w w1 := hw0 ▸ (Below.refl _ _).alloc (Nat.le_refl _) _
    have hz_p0 : w1.heap.size = w.heap.size + 1 := by rw [hw0]; simp
    have c_0 : w1.cell? ⟨w.heap.size, 0, none⟩ = some (.slice A0 n0 c0) := by rw [hw0]; simp
    have hB_w1 : Below w.heap.size w w1 := hb
    have hs_w1 : w.heap.size ≤ w1.heap.size := hb.size
    clear hb
    have b_p0_0 := c_0
    clear c_0
    rw [← hw0]
    clear hw0
    have HZ := laws_szModel 1048576 w1 (hR0.below (hB_w1)) (hB_w1).size (by omega) (by omega) hN0 hH0
    rw [HQ0.out] at HZ
    refine HZ.mono ?_
    clear HZ
    rintro e w2 ⟨rfl, hb⟩
    have hB_w2 : Below w.heap.size w w2 := below2 hB_w1 hb
    have hs_w2 : w1.heap.size ≤ w2.heap.size := hb.size
    replace b_p0_0 := cellB hb b_p0_0
    clear hb
    go_wp2_with fail
    have HZ := laws_szPairS q0 w2 (hR1.below (hB_w2)) (hB_w2).size (by omega) (by omega) hN1 hH1
    rw [HQ1.out] at HZ
    refine HZ.mono ?_
    clear HZ
    rintro e w3 ⟨rfl, hb⟩
    have hB_w3 : Below w.heap.size w w3 := below2 hB_w2 hb
    have hs_w3 : w2.heap.size ≤ w3.heap.size := hb.size
    replace b_p0_0 := cellB hb b_p0_0
    clear hb
    go_wp2_with fail
    go_ret
    exact ⟨rfl, hB_w3⟩
  have hx0 : n0 ≤ 1048576 := by omega
  have hsm0 : SmO ds0 := fun j d hj => by have := hk0 j d.p.length (by rw [List.getElem?_map, hj]; rfl); omega
  have hkk0 := hide hk0
  clear hk0
  have hx1 : n1 ≤ 1048576 := by omega
  have hsm1 : SmP ds1 := smP_of (by omega) hk1
  have hkk1 := hide hk1
  clear hk1
  obtain ⟨⟨rows, loss, gsat⟩, hgz⟩ : ∃ gz, seqG ds0 ds1 = gz := ⟨_, rfl⟩
  have hsmg : SmG 8 36 rows := by have := seqG_sm ds0 ds1; rw [hgz] at this; exact this
  have hgn : rows.length ≤ 1048576 := Nat.le_trans hsmg.1 (by omega)
  have hgsm : SmR rows := hsmg.smR (by omega)
  have hgm : mkN (rows.flatMap rowF) ≤ 288 := hsmg.mkN
  have hmk0 := mkN_model hR0 HQ0.out hq0 (by omega)
  have hmk1 := mkN_pairs HQ1.out hq1 (by omega)
  have HGZ := hide hgz
  clear hgz hsmg
  go_enter Tryz.func3, Tryz.ntmps3
  go_wp2_with fail
  obtain ⟨w1, hw0⟩ : ∃ W, W = w.alloc (.cells #[.slice A0 n0 c0] 24) := ⟨_, rfl⟩
  have hb : Below w.heap.size w w1 := hw0 ▸ (Below.refl _ _).alloc (Nat.le_refl _) _
  have hz_p0 : w1.heap.size = w.heap.size + 1 := by rw [hw0]; simp
  have c_0 : w1.cell? ⟨w.heap.size, 0, none⟩ = some (.slice A0 n0 c0) := by rw [hw0]; simp
  have hB_w1 : Below w.heap.size w w1 := hb
  have hs_w1 : w.heap.size ≤ w1.heap.size := hb.size
  clear hb
  have b_p0_0 := c_0
  clear c_0
  rw [← hw0]
  clear hw0
  have HZ := laws_szModel 1048576 w1 (hR0.below (hB_w1)) (hB_w1).size (by omega) (by omega) hN0 hH0
  rw [HQ0.out] at HZ
  refine HZ.mono ?_
  clear HZ
  rintro e w2 ⟨rfl, hb⟩
  have hB_w2 : Below w.heap.size w w2 := below2 hB_w1 hb
  have hs_w2 : w1.heap.size ≤ w2.heap.size := hb.size
  replace b_p0_0 := cellB hb b_p0_0
  clear hb
  go_wp2_with fail
  have HZ := laws_szPairS q0 w2 (hR1.below (hB_w2)) (hB_w2).size (by omega) (by omega) hN1 hH1
  rw [HQ1.out] at HZ
  refine HZ.mono ?_
  clear HZ
  rintro e w3 ⟨rfl, hb⟩
  have hB_w3 : Below w.heap.size w w3 := below2 hB_w2 hb
  have hs_w3 : w2.heap.size ≤ w3.heap.size := hb.size
  replace b_p0_0 := cellB hb b_p0_0
  clear hb
  go_wp2_with fail
  refine (laws_toModel w3 (hR0.below (hB_w3)) (hB_w3).size hx0 hsm0).mono ?_
  rintro e w4 ⟨A_t0, c_t0, rfl, h_t0, hb⟩
  have hh : OwOps w4 (w3.heap.size) (w4.heap.size) (.slice A_t0 n0 c_t0) n0 (ds0.flatMap opF) := h_t0
  clear h_t0
  have hB_w4 : Below w.heap.size w w4 := below2 hB_w3 hb
  have hs_w4 : w3.heap.size ≤ w4.heap.size := hb.size
  replace b_p0_0 := cellB hb b_p0_0
  clear hb
  have h_t0 := hh
  clear hh
  go_wp2_with fail
  refine (laws_toPairS w4 (hR1.below (hB_w4)) (hB_w4).size hx1 hsm1).mono ?_
  rintro e w5 ⟨A_t1, c_t1, rfl, h_t1, hb⟩
  have hh : OwPrs w5 (w4.heap.size) (w5.heap.size) (.slice A_t1 n1 c_t1) n1 (ds1.flatMap prF) := h_t1
  clear h_t1
  have hB_w5 : Below w.heap.size w w5 := below2 hB_w4 hb
  have hs_w5 : w4.heap.size ≤ w5.heap.size := hb.size
  replace h_t0 := h_t0.below hb
  replace b_p0_0 := cellB hb b_p0_0
  clear hb
  have h_t1 := hh
  clear hh
  go_wp2_with fail
  refine (flatG (spec_Sequential w5 h_t0.rl (by omega) hx0 hsm0 h_t1.rl (by omega) hx1 hsm1) HGZ.out).mono ?_
  rintro e w6 ⟨A_r0, c_r0, rfl, h_r0, hb⟩
  have hh_r0 : OwRows w6 (w5.heap.size) (w6.heap.size) (.slice A_r0 rows.length c_r0) rows.length (rows.flatMap rowF) := h_r0
  clear h_r0
  have hB_w6 : Below w.heap.size w w6 := below2 hB_w5 hb
  have hs_w6 : w5.heap.size ≤ w6.heap.size := hb.size
  replace h_t0 := h_t0.below hb
  replace h_t1 := h_t1.below hb
  replace b_p0_0 := cellB hb b_p0_0
  clear hb
  have h_r0 := hh_r0
  clear hh_r0
  clear h_t0 h_t1
  have ba_p0_0 := fun o => cellB ((Below.refl _ _).alloc (Nat.le_refl _) o) b_p0_0
  go_wp2_with fail
  clear ba_p0_0
  obtain ⟨w7, hw⟩ : ∃ W, W = w6.alloc (.cells #[.slice A_r0 rows.length c_r0, .int .i64 loss, .bool gsat] 30) := ⟨_, rfl⟩
  have hb : Below w6.heap.size w6 w7 := hw ▸ (Below.refl _ _).alloc (Nat.le_refl _) _
  have hz_r0 : w6.heap.size < w7.heap.size := by rw [hw]; simp
  have c_0 : w7.cell? ⟨w6.heap.size, 0, none⟩ = some (.slice A_r0 rows.length c_r0) := by rw [hw]; simp
  have c_1 : w7.cell? ⟨w6.heap.size, 1, none⟩ = some (.int .i64 loss) := by rw [hw]; simp
  have c_2 : w7.cell? ⟨w6.heap.size, 2, none⟩ = some (.bool gsat) := by rw [hw]; simp
  rw [← hw]
  clear hw
  have hB_w7 : Below w.heap.size w w7 := below2 hB_w6 hb
  have hs_w7 : w6.heap.size ≤ w7.heap.size := hb.size
  replace h_r0 := h_r0.below hb
  replace b_p0_0 := cellB hb b_p0_0
  clear hb
  have b_r0_0 := c_0
  clear c_0
  have b_r0_1 := c_1
  clear c_1
  have b_r0_2 := c_2
  clear c_2
  refine (laws_toModel w7 (hR0.below (hB_w7)) (hB_w7).size hx0 hsm0).mono ?_
  rintro e w8 ⟨A_x0, c_x0, rfl, h_x0, hb⟩
  have hh : OwOps w8 (w7.heap.size) (w8.heap.size) (.slice A_x0 n0 c_x0) n0 (ds0.flatMap opF) := h_x0
  clear h_x0
  have hB_w8 : Below w.heap.size w w8 := below2 hB_w7 hb
  have hs_w8 : w7.heap.size ≤ w8.heap.size := hb.size
  replace h_r0 := h_r0.below hb
  replace b_p0_0 := cellB hb b_p0_0
  replace b_r0_0 := cellB hb b_r0_0
  replace b_r0_1 := cellB hb b_r0_1
  replace b_r0_2 := cellB hb b_r0_2
  clear hb
  have h_x0 := hh
  clear hh
  have ba_p0_0 := fun o => cellB ((Below.refl _ _).alloc (Nat.le_refl _) o) b_p0_0
  have ba_r0_0 := fun o => cellB ((Below.refl _ _).alloc (Nat.le_refl _) o) b_r0_0
  have ba_r0_1 := fun o => cellB ((Below.refl _ _).alloc (Nat.le_refl _) o) b_r0_1
  have ba_r0_2 := fun o => cellB ((Below.refl _ _).alloc (Nat.le_refl _) o) b_r0_2
  go_wp2_with fail
  clear ba_p0_0 ba_r0_0 ba_r0_1 ba_r0_2
  obtain ⟨w9, hw⟩ : ∃ W, W = w8.alloc (.cells #[.slice A_x0 n0 c_x0] 34) := ⟨_, rfl⟩
  have hb : Below w8.heap.size w8 w9 := hw ▸ (Below.refl _ _).alloc (Nat.le_refl _) _
  have hz_x0 : w8.heap.size < w9.heap.size := by rw [hw]; simp
  have c_0 : w9.cell? ⟨w8.heap.size, 0, none⟩ = some (.slice A_x0 n0 c_x0) := by rw [hw]; simp
  rw [← hw]
  clear hw
  have hB_w9 : Below w.heap.size w w9 := below2 hB_w8 hb
  have hs_w9 : w8.heap.size ≤ w9.heap.size := hb.size
  replace h_r0 := h_r0.below hb
  replace h_x0 := h_x0.below hb
  replace b_p0_0 := cellB hb b_p0_0
  replace b_r0_0 := cellB hb b_r0_0
  replace b_r0_1 := cellB hb b_r0_1
  replace b_r0_2 := cellB hb b_r0_2
  clear hb
  have b_x0_0 := c_0
  clear c_0
  refine (laws_toPairS w9 (hR1.below (hB_w9)) (hB_w9).size hx1 hsm1).mono ?_
  rintro e w10 ⟨A_x1, c_x1, rfl, h_x1, hb⟩
  have hh : OwPrs w10 (w9.heap.size) (w10.heap.size) (.slice A_x1 n1 c_x1) n1 (ds1.flatMap prF) := h_x1
  clear h_x1
  have hB_w10 : Below w.heap.size w w10 := below2 hB_w9 hb
  have hs_w10 : w9.heap.size ≤ w10.heap.size := hb.size
  replace h_r0 := h_r0.below hb
  replace h_x0 := h_x0.below hb
  replace b_p0_0 := cellB hb b_p0_0
  replace b_r0_0 := cellB hb b_r0_0
  replace b_r0_1 := cellB hb b_r0_1
  replace b_r0_2 := cellB hb b_r0_2
  replace b_x0_0 := cellB hb b_x0_0
  clear hb
  have h_x1 := hh
  clear hh
  go_wp2_with fail
  refine (flatG (impl_Sequential w10 h_x0.rl (by omega) hx0 hsm0 h_x1.rl (by omega) hx1 hsm1) HGZ.out).mono ?_
  rintro e w11 ⟨A_g0, c_g0, rfl, h_g0, hb⟩
  have hh_g0 : OwRows w11 (w10.heap.size) (w11.heap.size) (.slice A_g0 rows.length c_g0) rows.length (rows.flatMap rowF) := h_g0
  clear h_g0
  have hB_w11 : Below w.heap.size w w11 := below2 hB_w10 hb
  have hs_w11 : w10.heap.size ≤ w11.heap.size := hb.size
  replace h_r0 := h_r0.below hb
  replace h_x0 := h_x0.below hb
  replace h_x1 := h_x1.below hb
  replace b_p0_0 := cellB hb b_p0_0
  replace b_r0_0 := cellB hb b_r0_0
  replace b_r0_1 := cellB hb b_r0_1
  replace b_r0_2 := cellB hb b_r0_2
  replace b_x0_0 := cellB hb b_x0_0
  clear hb
  have h_g0 := hh_g0
  clear hh_g0
  have ba_p0_0 := fun o => cellB ((Below.refl _ _).alloc (Nat.le_refl _) o) b_p0_0
  have ba_r0_0 := fun o => cellB ((Below.refl _ _).alloc (Nat.le_refl _) o) b_r0_0
  have ba_r0_1 := fun o => cellB ((Below.refl _ _).alloc (Nat.le_refl _) o) b_r0_1
  have ba_r0_2 := fun o => cellB ((Below.refl _ _).alloc (Nat.le_refl _) o) b_r0_2
  have ba_x0_0 := fun o => cellB ((Below.refl _ _).alloc (Nat.le_refl _) o) b_x0_0
  go_wp2_with fail
  clear ba_p0_0 ba_r0_0 ba_r0_1 ba_r0_2 ba_x0_0
  obtain ⟨w12, hw⟩ : ∃ W, W = w11.alloc (.cells #[.slice A_g0 rows.length c_g0, .int .i64 loss, .bool gsat] 30) := ⟨_, rfl⟩
  have hb : Below w11.heap.size w11 w12 := hw ▸ (Below.refl _ _).alloc (Nat.le_refl _) _
  have hz_g0 : w11.heap.size < w12.heap.size := by rw [hw]; simp
  have c_0 : w12.cell? ⟨w11.heap.size, 0, none⟩ = some (.slice A_g0 rows.length c_g0) := by rw [hw]; simp
  have c_1 : w12.cell? ⟨w11.heap.size, 1, none⟩ = some (.int .i64 loss) := by rw [hw]; simp
  have c_2 : w12.cell? ⟨w11.heap.size, 2, none⟩ = some (.bool gsat) := by rw [hw]; simp
  rw [← hw]
  clear hw
  have hB_w12 : Below w.heap.size w w12 := below2 hB_w11 hb
  have hs_w12 : w11.heap.size ≤ w12.heap.size := hb.size
  replace h_r0 := h_r0.below hb
  replace h_x0 := h_x0.below hb
  replace h_x1 := h_x1.below hb
  replace h_g0 := h_g0.below hb
  replace b_p0_0 := cellB hb b_p0_0
  replace b_r0_0 := cellB hb b_r0_0
  replace b_r0_1 := cellB hb b_r0_1
  replace b_r0_2 := cellB hb b_r0_2
  replace b_x0_0 := cellB hb b_x0_0
  clear hb
  have b_g0_0 := c_0
  clear c_0
  have b_g0_1 := c_1
  clear c_1
  have b_g0_2 := c_2
  clear c_2
  refine (laws_eqGrads loss gsat w12 h_g0.rl h_r0.rl (by omega) (by omega) hgn hgsm).mono ?_
  rintro e w13 ⟨rfl, hb⟩
  have hB_w13 : Below w.heap.size w w13 := below2 hB_w12 hb
  have hs_w13 : w12.heap.size ≤ w13.heap.size := hb.size
  replace h_r0 := h_r0.below hb
  replace h_x0 := h_x0.below hb
  replace h_x1 := h_x1.below hb
  replace h_g0 := h_g0.below hb
  replace b_p0_0 := cellB hb b_p0_0
  replace b_r0_0 := cellB hb b_r0_0
  replace b_r0_1 := cellB hb b_r0_1
  replace b_r0_2 := cellB hb b_r0_2
  replace b_x0_0 := cellB hb b_x0_0
  replace b_g0_0 := cellB hb b_g0_0
  replace b_g0_1 := cellB hb b_g0_1
  replace b_g0_2 := cellB hb b_g0_2
  clear hb
  go_wp2_with fail
  have gate0 : True := trivial
  have gate1 : True := trivial
  go_region_held3 (fun W => W.cell? ⟨w.heap.size, 0, none⟩ = some (.slice A0 n0 c0) ∧ W.cell? ⟨w6.heap.size, 0, none⟩ = some (.slice A_r0 rows.length c_r0) ∧ W.cell? ⟨w6.heap.size, 1, none⟩ = some (.int .i64 loss) ∧ W.cell? ⟨w6.heap.size, 2, none⟩ = some (.bool gsat) ∧ W.cell? ⟨w8.heap.size, 0, none⟩ = some (.slice A_x0 n0 c_x0) ∧ W.cell? ⟨w11.heap.size, 0, none⟩ = some (.slice A_g0 rows.length c_g0) ∧ W.cell? ⟨w11.heap.size, 1, none⟩ = some (.int .i64 loss) ∧ W.cell? ⟨w11.heap.size, 2, none⟩ = some (.bool gsat)) (first | exact ⟨b_p0_0, b_r0_0, b_r0_1, b_r0_2, b_x0_0, b_g0_0, b_g0_1, b_g0_2⟩) (first
    | (clear gate0; go_at_call 7; refine (laws_toModel w13.drew (hR0.below (hB_w13.drew)) (hB_w13.drew).size hx0 hsm0).mono ?_; rintro e w14 ⟨A_y, c_y, rfl, h_y, hb⟩; have hb : Below w13.heap.size w13 w14 := undrew hb; have hh : OwOps w14 (w13.heap.size) (w14.heap.size) (.slice A_y n0 c_y) n0 (ds0.flatMap opF) := h_y; clear h_y; have hB_w14 : Below w.heap.size w w14 := below2 hB_w13 hb; have hs_w14 : w13.heap.size ≤ w14.heap.size := hb.size; replace h_r0 := h_r0.below hb; replace h_x0 := h_x0.below hb; replace h_x1 := h_x1.below hb; replace h_g0 := h_g0.below hb; replace b_p0_0 := cellB hb b_p0_0; replace b_r0_0 := cellB hb b_r0_0; replace b_r0_1 := cellB hb b_r0_1; replace b_r0_2 := cellB hb b_r0_2; replace b_x0_0 := cellB hb b_x0_0; replace b_g0_0 := cellB hb b_g0_0; replace b_g0_1 := cellB hb b_g0_1; replace b_g0_2 := cellB hb b_g0_2; clear hb; have h_y := hh; clear hh)
    | (clear gate1; go_at_call 11; refine (laws_eqModel w14 h_x0.rl h_y.rl (by omega) (by omega) hx0 hsm0).mono ?_; rintro e w15 ⟨rfl, hb⟩; have hB_w15 : Below w.heap.size w w15 := below2 hB_w14 hb; have hs_w15 : w14.heap.size ≤ w15.heap.size := hb.size; replace h_r0 := h_r0.below hb; replace h_x0 := h_x0.below hb; replace h_x1 := h_x1.below hb; replace h_g0 := h_g0.below hb; replace h_y := h_y.below hb; replace b_p0_0 := cellB hb b_p0_0; replace b_r0_0 := cellB hb b_r0_0; replace b_r0_1 := cellB hb b_r0_1; replace b_r0_2 := cellB hb b_r0_2; replace b_x0_0 := cellB hb b_x0_0; replace b_g0_0 := cellB hb b_g0_0; replace b_g0_1 := cellB hb b_g0_1; replace b_g0_2 := cellB hb b_g0_2; clear hb))
  clear h_y
  go_wp2_with fail
  refine (laws_toPairS w15 (hR1.below (hB_w15)) (hB_w15).size hx1 hsm1).mono ?_
  rintro e w16 ⟨A_y, c_y, rfl, h_y, hb⟩
  have hh : OwPrs w16 (w15.heap.size) (w16.heap.size) (.slice A_y n1 c_y) n1 (ds1.flatMap prF) := h_y
  clear h_y
  have hB_w16 : Below w.heap.size w w16 := below2 hB_w15 hb
  have hs_w16 : w15.heap.size ≤ w16.heap.size := hb.size
  replace h_r0 := h_r0.below hb
  replace h_x0 := h_x0.below hb
  replace h_x1 := h_x1.below hb
  replace h_g0 := h_g0.below hb
  replace b_p0_0 := cellB hb b_p0_0
  replace b_r0_0 := cellB hb b_r0_0
  replace b_r0_1 := cellB hb b_r0_1
  replace b_r0_2 := cellB hb b_r0_2
  replace b_x0_0 := cellB hb b_x0_0
  replace b_g0_0 := cellB hb b_g0_0
  replace b_g0_1 := cellB hb b_g0_1
  replace b_g0_2 := cellB hb b_g0_2
  clear hb
  have h_y := hh
  clear hh
  go_wp2_with fail
  refine (laws_eqPairS w16 h_x1.rl h_y.rl (by omega) (by omega) hx1 hsm1).mono ?_
  rintro e w17 ⟨rfl, hb⟩
  have hB_w17 : Below w.heap.size w w17 := below2 hB_w16 hb
  have hs_w17 : w16.heap.size ≤ w17.heap.size := hb.size
  replace h_r0 := h_r0.below hb
  replace h_x0 := h_x0.below hb
  replace h_x1 := h_x1.below hb
  replace h_g0 := h_g0.below hb
  replace h_y := h_y.below hb
  replace b_p0_0 := cellB hb b_p0_0
  replace b_r0_0 := cellB hb b_r0_0
  replace b_r0_1 := cellB hb b_r0_1
  replace b_r0_2 := cellB hb b_r0_2
  replace b_x0_0 := cellB hb b_x0_0
  replace b_g0_0 := cellB hb b_g0_0
  replace b_g0_1 := cellB hb b_g0_1
  replace b_g0_2 := cellB hb b_g0_2
  clear hb
  clear h_y
  go_wp2_with fail
  refine (laws_markModel (1) w17 h_x0 hx0 hsm0 (by omega) (by omega)).mono ?_
  rintro e w18 ⟨rfl, hm, ho⟩
  have hB_w18 : Below w.heap.size w w18 := hB_w17.trans (ho.below hB_w17.size (fun q hq h3 => by have h4 : w7.heap.size ≤ q ∧ q < w8.heap.size := h3; omega))
  have hs_w18 : w17.heap.size ≤ w18.heap.size := ho.size
  replace h_r0 := h_r0.farI ho (by omega)
  replace h_x1 := h_x1.farI ho (by omega)
  replace h_g0 := h_g0.farI ho (by omega)
  replace b_p0_0 := boxfarI ho b_p0_0 (by show w.heap.size < w7.heap.size ∨ w8.heap.size ≤ w.heap.size; omega)
  replace b_r0_0 := boxfarI ho b_r0_0 (by show w6.heap.size < w7.heap.size ∨ w8.heap.size ≤ w6.heap.size; omega)
  replace b_r0_1 := boxfarI ho b_r0_1 (by show w6.heap.size < w7.heap.size ∨ w8.heap.size ≤ w6.heap.size; omega)
  replace b_r0_2 := boxfarI ho b_r0_2 (by show w6.heap.size < w7.heap.size ∨ w8.heap.size ≤ w6.heap.size; omega)
  replace b_x0_0 := boxfarI ho b_x0_0 (by show w8.heap.size < w7.heap.size ∨ w8.heap.size ≤ w8.heap.size; omega)
  replace b_g0_0 := boxfarI ho b_g0_0 (by show w11.heap.size < w7.heap.size ∨ w8.heap.size ≤ w11.heap.size; omega)
  replace b_g0_1 := boxfarI ho b_g0_1 (by show w11.heap.size < w7.heap.size ∨ w8.heap.size ≤ w11.heap.size; omega)
  replace b_g0_2 := boxfarI ho b_g0_2 (by show w11.heap.size < w7.heap.size ∨ w8.heap.size ≤ w11.heap.size; omega)
  clear h_x0 ho
  have h_x0 := hm
  clear hm
  go_wp2_with fail
  refine (laws_markPairS (1 + (mkN (ds0.flatMap opF) : Int)) w18 h_x1 hx1 hsm1 (by omega) (by omega)).mono ?_
  rintro e w19 ⟨rfl, hm, ho⟩
  have hB_w19 : Below w.heap.size w w19 := hB_w18.trans (ho.below hB_w18.size (fun q hq h3 => by have h4 : w9.heap.size ≤ q ∧ q < w10.heap.size := h3; omega))
  have hs_w19 : w18.heap.size ≤ w19.heap.size := ho.size
  replace h_r0 := h_r0.farI ho (by omega)
  replace h_x0 := h_x0.farI ho (by omega)
  replace h_g0 := h_g0.farI ho (by omega)
  replace b_p0_0 := boxfarI ho b_p0_0 (by show w.heap.size < w9.heap.size ∨ w10.heap.size ≤ w.heap.size; omega)
  replace b_r0_0 := boxfarI ho b_r0_0 (by show w6.heap.size < w9.heap.size ∨ w10.heap.size ≤ w6.heap.size; omega)
  replace b_r0_1 := boxfarI ho b_r0_1 (by show w6.heap.size < w9.heap.size ∨ w10.heap.size ≤ w6.heap.size; omega)
  replace b_r0_2 := boxfarI ho b_r0_2 (by show w6.heap.size < w9.heap.size ∨ w10.heap.size ≤ w6.heap.size; omega)
  replace b_x0_0 := boxfarI ho b_x0_0 (by show w8.heap.size < w9.heap.size ∨ w10.heap.size ≤ w8.heap.size; omega)
  replace b_g0_0 := boxfarI ho b_g0_0 (by show w11.heap.size < w9.heap.size ∨ w10.heap.size ≤ w11.heap.size; omega)
  replace b_g0_1 := boxfarI ho b_g0_1 (by show w11.heap.size < w9.heap.size ∨ w10.heap.size ≤ w11.heap.size; omega)
  replace b_g0_2 := boxfarI ho b_g0_2 (by show w11.heap.size < w9.heap.size ∨ w10.heap.size ≤ w11.heap.size; omega)
  clear h_x1 ho
  have h_x1 := hm
  clear hm
  clear h_x0 h_x1
  clear b_x0_0
  go_wp2_with fail
  refine (laws_eqGrads loss gsat w19 h_g0.rl h_r0.rl (by omega) (by omega) hgn hgsm).mono ?_
  rintro e w20 ⟨rfl, hb⟩
  have hB_w20 : Below w.heap.size w w20 := below2 hB_w19 hb
  have hs_w20 : w19.heap.size ≤ w20.heap.size := hb.size
  replace h_r0 := h_r0.below hb
  replace h_g0 := h_g0.below hb
  replace b_p0_0 := cellB hb b_p0_0
  replace b_r0_0 := cellB hb b_r0_0
  replace b_r0_1 := cellB hb b_r0_1
  replace b_r0_2 := cellB hb b_r0_2
  replace b_g0_0 := cellB hb b_g0_0
  replace b_g0_1 := cellB hb b_g0_1
  replace b_g0_2 := cellB hb b_g0_2
  clear hb
  go_wp2_with fail
  refine (laws_markGrads loss gsat (1) w20 h_g0 hgn hgsm (by omega) (by omega)).mono ?_
  rintro e w21 ⟨rfl, hm, ho⟩
  have hB_w21 : Below w.heap.size w w21 := hB_w20.trans (ho.below hB_w20.size (fun q hq h3 => by have h4 : w10.heap.size ≤ q ∧ q < w11.heap.size := h3; omega))
  have hs_w21 : w20.heap.size ≤ w21.heap.size := ho.size
  replace h_r0 := h_r0.farI ho (by omega)
  replace b_p0_0 := boxfarI ho b_p0_0 (by show w.heap.size < w10.heap.size ∨ w11.heap.size ≤ w.heap.size; omega)
  replace b_r0_0 := boxfarI ho b_r0_0 (by show w6.heap.size < w10.heap.size ∨ w11.heap.size ≤ w6.heap.size; omega)
  replace b_r0_1 := boxfarI ho b_r0_1 (by show w6.heap.size < w10.heap.size ∨ w11.heap.size ≤ w6.heap.size; omega)
  replace b_r0_2 := boxfarI ho b_r0_2 (by show w6.heap.size < w10.heap.size ∨ w11.heap.size ≤ w6.heap.size; omega)
  replace b_g0_0 := boxfarI ho b_g0_0 (by show w11.heap.size < w10.heap.size ∨ w11.heap.size ≤ w11.heap.size; omega)
  replace b_g0_1 := boxfarI ho b_g0_1 (by show w11.heap.size < w10.heap.size ∨ w11.heap.size ≤ w11.heap.size; omega)
  replace b_g0_2 := boxfarI ho b_g0_2 (by show w11.heap.size < w10.heap.size ∨ w11.heap.size ≤ w11.heap.size; omega)
  clear h_g0 ho
  have h_g0 := hm
  clear hm
  go_wp2_with fail
  refine (laws_heldGrads loss gsat (1) w21 h_g0 hgn hgsm (by omega) (by omega)).mono ?_
  rintro e w22 ⟨rfl, hb⟩
  have hB_w22 : Below w.heap.size w w22 := below2 hB_w21 hb
  have hs_w22 : w21.heap.size ≤ w22.heap.size := hb.size
  replace h_r0 := h_r0.below hb
  replace h_g0 := h_g0.below hb
  replace b_p0_0 := cellB hb b_p0_0
  replace b_r0_0 := cellB hb b_r0_0
  replace b_r0_1 := cellB hb b_r0_1
  replace b_r0_2 := cellB hb b_r0_2
  replace b_g0_0 := cellB hb b_g0_0
  replace b_g0_1 := cellB hb b_g0_1
  replace b_g0_2 := cellB hb b_g0_2
  clear hb
  go_wp2_with fail
  refine (laws_toModel w22 (hR0.below (hB_w22)) (hB_w22).size hx0 hsm0).mono ?_
  rintro e w23 ⟨A_t0, c_t0, rfl, h_t0, hb⟩
  have hh : OwOps w23 (w22.heap.size) (w23.heap.size) (.slice A_t0 n0 c_t0) n0 (ds0.flatMap opF) := h_t0
  clear h_t0
  have hB_w23 : Below w.heap.size w w23 := below2 hB_w22 hb
  have hs_w23 : w22.heap.size ≤ w23.heap.size := hb.size
  replace h_r0 := h_r0.below hb
  replace h_g0 := h_g0.below hb
  replace b_p0_0 := cellB hb b_p0_0
  replace b_r0_0 := cellB hb b_r0_0
  replace b_r0_1 := cellB hb b_r0_1
  replace b_r0_2 := cellB hb b_r0_2
  replace b_g0_0 := cellB hb b_g0_0
  replace b_g0_1 := cellB hb b_g0_1
  replace b_g0_2 := cellB hb b_g0_2
  clear hb
  have h_t0 := hh
  clear hh
  go_wp2_with fail
  refine (laws_toPairS w23 (hR1.below (hB_w23)) (hB_w23).size hx1 hsm1).mono ?_
  rintro e w24 ⟨A_t1, c_t1, rfl, h_t1, hb⟩
  have hh : OwPrs w24 (w23.heap.size) (w24.heap.size) (.slice A_t1 n1 c_t1) n1 (ds1.flatMap prF) := h_t1
  clear h_t1
  have hB_w24 : Below w.heap.size w w24 := below2 hB_w23 hb
  have hs_w24 : w23.heap.size ≤ w24.heap.size := hb.size
  replace h_r0 := h_r0.below hb
  replace h_g0 := h_g0.below hb
  replace h_t0 := h_t0.below hb
  replace b_p0_0 := cellB hb b_p0_0
  replace b_r0_0 := cellB hb b_r0_0
  replace b_r0_1 := cellB hb b_r0_1
  replace b_r0_2 := cellB hb b_r0_2
  replace b_g0_0 := cellB hb b_g0_0
  replace b_g0_1 := cellB hb b_g0_1
  replace b_g0_2 := cellB hb b_g0_2
  clear hb
  have h_t1 := hh
  clear hh
  go_wp2_with fail
  refine (flatG (impl_Sequential w24 h_t0.rl (by omega) hx0 hsm0 h_t1.rl (by omega) hx1 hsm1) HGZ.out).mono ?_
  rintro e w25 ⟨A_h0, c_h0, rfl, h_h0, hb⟩
  have hh_h0 : OwRows w25 (w24.heap.size) (w25.heap.size) (.slice A_h0 rows.length c_h0) rows.length (rows.flatMap rowF) := h_h0
  clear h_h0
  have hB_w25 : Below w.heap.size w w25 := below2 hB_w24 hb
  have hs_w25 : w24.heap.size ≤ w25.heap.size := hb.size
  replace h_r0 := h_r0.below hb
  replace h_g0 := h_g0.below hb
  replace h_t0 := h_t0.below hb
  replace h_t1 := h_t1.below hb
  replace b_p0_0 := cellB hb b_p0_0
  replace b_r0_0 := cellB hb b_r0_0
  replace b_r0_1 := cellB hb b_r0_1
  replace b_r0_2 := cellB hb b_r0_2
  replace b_g0_0 := cellB hb b_g0_0
  replace b_g0_1 := cellB hb b_g0_1
  replace b_g0_2 := cellB hb b_g0_2
  clear hb
  have h_h0 := hh_h0
  clear hh_h0
  clear h_t0 h_t1
  have ba_p0_0 := fun o => cellB ((Below.refl _ _).alloc (Nat.le_refl _) o) b_p0_0
  have ba_r0_0 := fun o => cellB ((Below.refl _ _).alloc (Nat.le_refl _) o) b_r0_0
  have ba_r0_1 := fun o => cellB ((Below.refl _ _).alloc (Nat.le_refl _) o) b_r0_1
  have ba_r0_2 := fun o => cellB ((Below.refl _ _).alloc (Nat.le_refl _) o) b_r0_2
  have ba_g0_0 := fun o => cellB ((Below.refl _ _).alloc (Nat.le_refl _) o) b_g0_0
  have ba_g0_1 := fun o => cellB ((Below.refl _ _).alloc (Nat.le_refl _) o) b_g0_1
  have ba_g0_2 := fun o => cellB ((Below.refl _ _).alloc (Nat.le_refl _) o) b_g0_2
  go_wp2_with fail
  clear ba_p0_0 ba_r0_0 ba_r0_1 ba_r0_2 ba_g0_0 ba_g0_1 ba_g0_2
  obtain ⟨w26, hw⟩ : ∃ W, W = w25.alloc (.cells #[.slice A_h0 rows.length c_h0, .int .i64 loss, .bool gsat] 30) := ⟨_, rfl⟩
  have hb : Below w25.heap.size w25 w26 := hw ▸ (Below.refl _ _).alloc (Nat.le_refl _) _
  have hz_h0 : w25.heap.size < w26.heap.size := by rw [hw]; simp
  have c_0 : w26.cell? ⟨w25.heap.size, 0, none⟩ = some (.slice A_h0 rows.length c_h0) := by rw [hw]; simp
  have c_1 : w26.cell? ⟨w25.heap.size, 1, none⟩ = some (.int .i64 loss) := by rw [hw]; simp
  have c_2 : w26.cell? ⟨w25.heap.size, 2, none⟩ = some (.bool gsat) := by rw [hw]; simp
  rw [← hw]
  clear hw
  have hB_w26 : Below w.heap.size w w26 := below2 hB_w25 hb
  have hs_w26 : w25.heap.size ≤ w26.heap.size := hb.size
  replace h_r0 := h_r0.below hb
  replace h_g0 := h_g0.below hb
  replace h_h0 := h_h0.below hb
  replace b_p0_0 := cellB hb b_p0_0
  replace b_r0_0 := cellB hb b_r0_0
  replace b_r0_1 := cellB hb b_r0_1
  replace b_r0_2 := cellB hb b_r0_2
  replace b_g0_0 := cellB hb b_g0_0
  replace b_g0_1 := cellB hb b_g0_1
  replace b_g0_2 := cellB hb b_g0_2
  clear hb
  have b_h0_0 := c_0
  clear c_0
  have b_h0_1 := c_1
  clear c_1
  have b_h0_2 := c_2
  clear c_2
  refine (laws_eqGrads loss gsat w26 h_h0.rl h_r0.rl (by omega) (by omega) hgn hgsm).mono ?_
  rintro e w27 ⟨rfl, hb⟩
  have hB_w27 : Below w.heap.size w w27 := below2 hB_w26 hb
  have hs_w27 : w26.heap.size ≤ w27.heap.size := hb.size
  replace h_r0 := h_r0.below hb
  replace h_g0 := h_g0.below hb
  replace h_h0 := h_h0.below hb
  replace b_p0_0 := cellB hb b_p0_0
  replace b_r0_0 := cellB hb b_r0_0
  replace b_r0_1 := cellB hb b_r0_1
  replace b_r0_2 := cellB hb b_r0_2
  replace b_g0_0 := cellB hb b_g0_0
  replace b_g0_1 := cellB hb b_g0_1
  replace b_g0_2 := cellB hb b_g0_2
  replace b_h0_0 := cellB hb b_h0_0
  replace b_h0_1 := cellB hb b_h0_1
  replace b_h0_2 := cellB hb b_h0_2
  clear hb
  go_wp2_with fail
  refine (laws_heldGrads loss gsat (1) w27 h_g0 hgn hgsm (by omega) (by omega)).mono ?_
  rintro e w28 ⟨rfl, hb⟩
  have hB_w28 : Below w.heap.size w w28 := below2 hB_w27 hb
  have hs_w28 : w27.heap.size ≤ w28.heap.size := hb.size
  replace h_r0 := h_r0.below hb
  replace h_g0 := h_g0.below hb
  replace h_h0 := h_h0.below hb
  replace b_p0_0 := cellB hb b_p0_0
  replace b_r0_0 := cellB hb b_r0_0
  replace b_r0_1 := cellB hb b_r0_1
  replace b_r0_2 := cellB hb b_r0_2
  replace b_g0_0 := cellB hb b_g0_0
  replace b_g0_1 := cellB hb b_g0_1
  replace b_g0_2 := cellB hb b_g0_2
  replace b_h0_0 := cellB hb b_h0_0
  replace b_h0_1 := cellB hb b_h0_1
  replace b_h0_2 := cellB hb b_h0_2
  clear hb
  go_wp2_with fail
  go_ret
  exact ⟨rfl, hB_w28⟩
set_option maxRecDepth 100000 in
theorem lifted (os : Os) (started : os.Started) (H : Type) (enc : TypeId × Value → H) :
    ReturnsInHanded {} Tryz.checked os 3 .any (Rows.fnExactSequentialSpec.pre6 enc Tryz.prog Tryz.f3 Rows.fnExactSequentialRow.domain false) (Rows.fnExactSequentialSpec.post enc Tryz.prog Tryz.f3 false true false false) := by
  refine law_lifted (C := Tryz.checked) (f := 3) (fn := Tryz.f3) (tb := 4) os (by kernel_rfl) started (by kernel_rfl) Tryz.func3 (by kernel_rfl) (by kernel_rfl) rfl Tryz.underlying4 rfl (fun H ds h => ?_) H enc
    (ChangeSpec.witness6 (enc := enc) (C := Tryz.checked) false ⟨#[], #[.agg #[.slice none 0 0], .slice none 0 0], []⟩ 8 (by kernel_rfl) (by kernel_rfl) (by kernel_rfl) (by kernel_rfl)) ?_
  · rw [show Tryz.f3.params.size = 2 from by kernel_rfl] at h
    match ds, h with
    | [d0, d1], _ => rfl
  intro W base args ds ps hval hA hlt
  have hval : ∀ (j : Nat) t v, Tryz.f3.params[j]? = some t → args[j]? = some v → Value.okWide Tryz.prog W .any base t v := hval
  have hA : DataW.TrodAll enc Tryz.prog W 0 (fun _ => true) true Tryz.f3.params.toList args.toList ds ps := hA
  rw [Tryz.params3] at hA hval
  obtain ⟨v0, vs0, d0, ds0, p0, q0, hargs, rfl, rfl, h0, r0⟩ := trodAll_cons hA
  obtain ⟨v1, vs1, d1, ds1, p1, q1, rfl, rfl, rfl, h1, r1⟩ := trodAll_cons r0
  obtain ⟨rfl, rfl, rfl⟩ := trodAll_nil r1
  obtain rfl : args = #[v0, v1] := by cases args; simp_all
  obtain ⟨A0, n0, c0, ds0, rfl, hR0, hN0, hG0⟩ := openModel (hval 0 24 v0 rfl rfl) h0 (fun x hx => hlt x (by simp [hx]))
  obtain ⟨A1, n1, c1, ds1, rfl, hR1, hN1, hG1⟩ := openPairs (hval 1 25 v1 rfl rfl) h1 (fun x hx => hlt x (by simp [hx]))
  exact walk W hR0 hN0 (fun j l hj => by rw [List.getElem?_map] at hj; obtain ⟨d, hd, rfl⟩ := Option.map_eq_some_iff.1 hj; exact hG0 j d hd) hR1 hN1 (lensP_hg hG1)
theorem proved : Rows.FnExactSequentialSaid :=
  OpenClaim.holds_of_wide 3 Tryz.f3 rfl rfl rfl rfl rfl rfl rfl ⟨rfl, rfl, rfl, rfl, rfl⟩ rfl rfl rfl rfl rfl (by kernel_rfl) Tryz.func3 (by kernel_rfl)
    (of_decide_eq_true (by kernel_rfl)) (by unfold Func.isWrapper; first | (rw [if_pos (by decide +kernel)]; kernel_rfl) | (rw [if_neg (by decide +kernel)]; exact ⟨rfl, rfl⟩))
    (fun os started H enc _ => lifted os started H enc)
#print axioms proved
end Go.Proofs.YtehfglfbnjdcoaaGreat.fnExactSequential
