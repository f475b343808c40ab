/-
  PROVED HERE: the law 'laws.FnExactMicroGrads' returns true and leaves its arguments as they were, for every input, without a condition.
-/
import Derived.Test.YtehfglfbnjdcoaaRows
import Derived.Test.YtehfglfbnjdcoaaFrame
import Derived.Test.YtehfglfbnjdcoaaOpenR
import Derived.Test.YtehfglfbnjdcoaaOpenM
import Derived.Test.YtehfglfbnjdcoaaOpen
import Derived.Test.YtehfglfbnjdcoaaMicI
import Derived.Test.YtehfglfbnjdcoaaMicS
import Derived.Test.YtehfglfbnjdcoaaMkN
import Derived.Test.YtehfglfbnjdcoaaMarkO
import Derived.Test.YtehfglfbnjdcoaaOpenG
import Derived.Test.YtehfglfbnjdcoaaPairS
import Derived.WalkKit
import Derived.Deep.RegionHeld3
import Derived.ProofKit
import Derived.OpenShut
namespace Go.Proofs.Ytehfglfbnjdcoaa.fnExactMicroGrads
open Go.ChangeShapes Go.WideShapes Go.ChangeAt Go.RowKit
set_option maxRecDepth 100000
open Go.ChangeMaps (open_string)
set_option linter.unusedVariables false
theorem cells_int : Try.prog.cellsOf 3 = 1 := by kernel_rfl
set_option maxHeartbeats 8000000 in
set_option maxRecDepth 100000 in
theorem walk (w : World) {A0 : Option Addr} {n0 c0 : Nat} {ds0 : List OpD} (hR0 : RL 4 w w.heap.size A0 n0 c0 (ds0.flatMap opF)) (hN0 : (n0 : Int) ≤ 9223372036854775807) (hH0 : ∀ (j : Nat) (l : Nat), (ds0.map fun d => d.p.length)[j]? = some l → (l : Int) ≤ 9223372036854775807) {A1 C1 : Option Addr} {n1 c1 m1 d1 : Nat} {xs1 ys1 : List Int} (hR1 : RI w w.heap.size A1 n1 c1 xs1) (hN1 : (n1 : Int) ≤ 9223372036854775807) (hS1 : RI w w.heap.size C1 m1 d1 ys1) (hM1 : (m1 : Int) ≤ 9223372036854775807) : Calls Try.prog 3 #[.agg #[.slice A0 n0 c0], .agg #[.slice A1 n1 c1, .slice C1 m1 d1]] w fun e w' => e = .returned (.bool true) ∧ Below w.heap.size w w' := by
  obtain ⟨q0, hq0⟩ : ∃ q, szL n0 (ds0.map fun d => d.p.length) 1048576 = q := ⟨_, rfl⟩
  have hc0 := szL_case n0 (ds0.map fun d => d.p.length) 1048576
  rw [hq0] at hc0
  have HQ0 := hide hq0
  clear hq0
  rcases hc0 with rfl | ⟨hq0, hle0, hn0, hk0⟩
  · go_enter Try.func3, Try.ntmps3
    go_wp2_with fail
    obtain ⟨w1, hw0⟩ : ∃ W, W = w.alloc (.cells #[.slice A0 n0 c0] 24) := ⟨_, rfl⟩
    have hb : Below w.heap.size w w1 := hw0 ▸ (Below.refl _ _).alloc (Nat.le_refl _) _
    have hz_p0 : w1.heap.size = w.heap.size + 1 := by rw [hw0]; simp
    have c_0 : w1.cell? ⟨w.heap.size, 0, none⟩ = some (.slice A0 n0 c0) := by rw [hw0]; simp
    have hB_w1 : Below w.heap.size w w1 := hb
    have hs_w1 : w.heap.size ≤ w1.heap.size := hb.size
    clear hb
    have b_p0_0 := c_0
    clear c_0
    obtain ⟨w2, hw1⟩ : ∃ W, W = w1.alloc (.cells #[.slice A1 n1 c1, .slice C1 m1 d1] 27) := ⟨_, rfl⟩
    have hb : Below w1.heap.size w1 w2 := hw1 ▸ (Below.refl _ _).alloc (Nat.le_refl _) _
    have hz_p1 : w2.heap.size = w.heap.size + 1 + 1 := by rw [hw1]; simp [hz_p0]
    have c_0 : w2.cell? ⟨w.heap.size + 1, 0, none⟩ = some (.slice A1 n1 c1) := by rw [hw1, ← hz_p0]; simp
    have c_1 : w2.cell? ⟨w.heap.size + 1, 1, none⟩ = some (.slice C1 m1 d1) := by rw [hw1, ← hz_p0]; simp
    have hB_w2 : Below w.heap.size w w2 := below2 hB_w1 hb
    have hs_w2 : w1.heap.size ≤ w2.heap.size := hb.size
    replace b_p0_0 := cellB hb b_p0_0
    clear hb
    have b_p1_0 := c_0
    clear c_0
    have b_p1_1 := c_1
    clear c_1
    rw [← hw0]
    rw [← hw1]
    clear hw0 hw1
    have HZ := laws_szModel 1048576 w2 (hR0.below (hB_w2)) (hB_w2).size (by omega) (by omega) hN0 hH0
    rw [HQ0.out] at HZ
    refine HZ.mono ?_
    clear HZ
    rintro e w3 ⟨rfl, hb⟩
    have hB_w3 : Below w.heap.size w w3 := below2 hB_w2 hb
    have hs_w3 : w2.heap.size ≤ w3.heap.size := hb.size
    replace b_p0_0 := cellB hb b_p0_0
    replace b_p1_0 := cellB hb b_p1_0
    replace b_p1_1 := cellB hb b_p1_1
    clear hb
    go_wp2_with fail
    go_ret
    exact ⟨rfl, hB_w3⟩
  obtain ⟨q1, hq1⟩ : ∃ q, szD [n1, m1] q0 = q := ⟨_, rfl⟩
  have hc1 := szP_case n1 m1 q0 (by omega)
  rw [hq1] at hc1
  have HQ1 := hide hq1
  clear hq1
  rcases hc1 with rfl | ⟨hq1, hn1, hk1, hle1⟩
  · go_enter Try.func3, Try.ntmps3
    go_wp2_with fail
    obtain ⟨w1, hw0⟩ : ∃ W, W = w.alloc (.cells #[.slice A0 n0 c0] 24) := ⟨_, rfl⟩
    have hb : Below w.heap.size w w1 := hw0 ▸ (Below.refl _ _).alloc (Nat.le_refl _) _
    have hz_p0 : w1.heap.size = w.heap.size + 1 := by rw [hw0]; simp
    have c_0 : w1.cell? ⟨w.heap.size, 0, none⟩ = some (.slice A0 n0 c0) := by rw [hw0]; simp
    have hB_w1 : Below w.heap.size w w1 := hb
    have hs_w1 : w.heap.size ≤ w1.heap.size := hb.size
    clear hb
    have b_p0_0 := c_0
    clear c_0
    obtain ⟨w2, hw1⟩ : ∃ W, W = w1.alloc (.cells #[.slice A1 n1 c1, .slice C1 m1 d1] 27) := ⟨_, rfl⟩
    have hb : Below w1.heap.size w1 w2 := hw1 ▸ (Below.refl _ _).alloc (Nat.le_refl _) _
    have hz_p1 : w2.heap.size = w.heap.size + 1 + 1 := by rw [hw1]; simp [hz_p0]
    have c_0 : w2.cell? ⟨w.heap.size + 1, 0, none⟩ = some (.slice A1 n1 c1) := by rw [hw1, ← hz_p0]; simp
    have c_1 : w2.cell? ⟨w.heap.size + 1, 1, none⟩ = some (.slice C1 m1 d1) := by rw [hw1, ← hz_p0]; simp
    have hB_w2 : Below w.heap.size w w2 := below2 hB_w1 hb
    have hs_w2 : w1.heap.size ≤ w2.heap.size := hb.size
    replace b_p0_0 := cellB hb b_p0_0
    clear hb
    have b_p1_0 := c_0
    clear c_0
    have b_p1_1 := c_1
    clear c_1
    rw [← hw0]
    rw [← hw1]
    clear hw0 hw1
    have HZ := laws_szModel 1048576 w2 (hR0.below (hB_w2)) (hB_w2).size (by omega) (by omega) hN0 hH0
    rw [HQ0.out] at HZ
    refine HZ.mono ?_
    clear HZ
    rintro e w3 ⟨rfl, hb⟩
    have hB_w3 : Below w.heap.size w w3 := below2 hB_w2 hb
    have hs_w3 : w2.heap.size ≤ w3.heap.size := hb.size
    replace b_p0_0 := cellB hb b_p0_0
    replace b_p1_0 := cellB hb b_p1_0
    replace b_p1_1 := cellB hb b_p1_1
    clear hb
    go_wp2_with fail
    have HZ := laws_szPair A1 n1 c1 C1 m1 d1 q0 w3 (by omega) (by omega) hN1 hM1
    rw [HQ1.out] at HZ
    refine HZ.mono ?_
    clear HZ
    rintro e w4 ⟨rfl, hb⟩
    have hB_w4 : Below w.heap.size w w4 := below2 hB_w3 hb
    have hs_w4 : w3.heap.size ≤ w4.heap.size := hb.size
    replace b_p0_0 := cellB hb b_p0_0
    replace b_p1_0 := cellB hb b_p1_0
    replace b_p1_1 := cellB hb b_p1_1
    clear hb
    go_wp2_with fail
    go_ret
    exact ⟨rfl, hB_w4⟩
  have hx0 : n0 ≤ 1048576 := by omega
  have hsm0 : SmO ds0 := fun j d hj => by have := hk0 j d.p.length (by rw [List.getElem?_map, hj]; rfl); omega
  have hkk0 := hide hk0
  clear hk0
  have hx1 : xs1.length ≤ 1048576 := by have := hR1.1; omega
  have hsm1 : ys1.length ≤ 1048576 := by have := hS1.1; omega
  have hkk1 := hide hk1
  clear hk1
  obtain ⟨⟨rows, loss, gsat⟩, hgz⟩ : ∃ gz, microG ds0 xs1 ys1 = gz := ⟨_, rfl⟩
  have hsmg : SmG 8 36 rows := by have := microG_sm ds0 xs1 ys1; rw [hgz] at this; exact this
  have hgn : rows.length ≤ 1048576 := Nat.le_trans hsmg.1 (by omega)
  have hgsm : SmR rows := hsmg.smR (by omega)
  have hgm : mkN (rows.flatMap rowF) ≤ 288 := hsmg.mkN
  have hmk0 := mkN_model hR0 HQ0.out hq0 (by omega)
  have HGZ := hide hgz
  clear hgz hsmg
  go_enter Try.func3, Try.ntmps3
  go_wp2_with fail
  obtain ⟨w1, hw0⟩ : ∃ W, W = w.alloc (.cells #[.slice A0 n0 c0] 24) := ⟨_, rfl⟩
  have hb : Below w.heap.size w w1 := hw0 ▸ (Below.refl _ _).alloc (Nat.le_refl _) _
  have hz_p0 : w1.heap.size = w.heap.size + 1 := by rw [hw0]; simp
  have c_0 : w1.cell? ⟨w.heap.size, 0, none⟩ = some (.slice A0 n0 c0) := by rw [hw0]; simp
  have hB_w1 : Below w.heap.size w w1 := hb
  have hs_w1 : w.heap.size ≤ w1.heap.size := hb.size
  clear hb
  have b_p0_0 := c_0
  clear c_0
  obtain ⟨w2, hw1⟩ : ∃ W, W = w1.alloc (.cells #[.slice A1 n1 c1, .slice C1 m1 d1] 27) := ⟨_, rfl⟩
  have hb : Below w1.heap.size w1 w2 := hw1 ▸ (Below.refl _ _).alloc (Nat.le_refl _) _
  have hz_p1 : w2.heap.size = w.heap.size + 1 + 1 := by rw [hw1]; simp [hz_p0]
  have c_0 : w2.cell? ⟨w.heap.size + 1, 0, none⟩ = some (.slice A1 n1 c1) := by rw [hw1, ← hz_p0]; simp
  have c_1 : w2.cell? ⟨w.heap.size + 1, 1, none⟩ = some (.slice C1 m1 d1) := by rw [hw1, ← hz_p0]; simp
  have hB_w2 : Below w.heap.size w w2 := below2 hB_w1 hb
  have hs_w2 : w1.heap.size ≤ w2.heap.size := hb.size
  replace b_p0_0 := cellB hb b_p0_0
  clear hb
  have b_p1_0 := c_0
  clear c_0
  have b_p1_1 := c_1
  clear c_1
  rw [← hw0]
  rw [← hw1]
  clear hw0 hw1
  have HZ := laws_szModel 1048576 w2 (hR0.below (hB_w2)) (hB_w2).size (by omega) (by omega) hN0 hH0
  rw [HQ0.out] at HZ
  refine HZ.mono ?_
  clear HZ
  rintro e w3 ⟨rfl, hb⟩
  have hB_w3 : Below w.heap.size w w3 := below2 hB_w2 hb
  have hs_w3 : w2.heap.size ≤ w3.heap.size := hb.size
  replace b_p0_0 := cellB hb b_p0_0
  replace b_p1_0 := cellB hb b_p1_0
  replace b_p1_1 := cellB hb b_p1_1
  clear hb
  go_wp2_with fail
  have HZ := laws_szPair A1 n1 c1 C1 m1 d1 q0 w3 (by omega) (by omega) hN1 hM1
  rw [HQ1.out] at HZ
  refine HZ.mono ?_
  clear HZ
  rintro e w4 ⟨rfl, hb⟩
  have hB_w4 : Below w.heap.size w w4 := below2 hB_w3 hb
  have hs_w4 : w3.heap.size ≤ w4.heap.size := hb.size
  replace b_p0_0 := cellB hb b_p0_0
  replace b_p1_0 := cellB hb b_p1_0
  replace b_p1_1 := cellB hb b_p1_1
  clear hb
  go_upto_region 8 with fail
  go_cut [6] from 24 (fun v W => ∃ rb_r0 lo_r0 hi_r0 Aq cq, v = .pointer (some ⟨rb_r0, 0, none⟩) ∧ W.cell? ⟨rb_r0, 0, none⟩ = some (.slice Aq rows.length cq) ∧ W.cell? ⟨rb_r0, 1, none⟩ = some (.int .i64 loss) ∧ W.cell? ⟨rb_r0, 2, none⟩ = some (.bool gsat) ∧ W.cell? ⟨w.heap.size, 0, none⟩ = some (.slice A0 n0 c0) ∧ W.cell? ⟨w.heap.size + 1, 0, none⟩ = some (.slice A1 n1 c1) ∧ W.cell? ⟨w.heap.size + 1, 1, none⟩ = some (.slice C1 m1 d1) ∧ OwRows W (lo_r0) (hi_r0) (.slice Aq rows.length cq) rows.length (rows.flatMap rowF) ∧ Below w.heap.size w W ∧ w4.heap.size ≤ W.heap.size ∧ (w4.heap.size ≤ lo_r0 ∧ lo_r0 ≤ hi_r0 ∧ hi_r0 ≤ W.heap.size) ∧ (w4.heap.size ≤ rb_r0 ∧ rb_r0 < W.heap.size) ∧ (rb_r0 < lo_r0 ∨ hi_r0 ≤ rb_r0))
  case first =>
    have gate0 : True := trivial
    have gate1 : True := trivial
    have gate2 : True := trivial
    go_region_held3 (fun W => W.cell? ⟨w.heap.size, 0, none⟩ = some (.slice A0 n0 c0) ∧ W.cell? ⟨w.heap.size + 1, 0, none⟩ = some (.slice A1 n1 c1) ∧ W.cell? ⟨w.heap.size + 1, 1, none⟩ = some (.slice C1 m1 d1)) (first | exact ⟨b_p0_0, b_p1_0, b_p1_1⟩ | exact ⟨cellB ((Below.refl _ _).alloc (Nat.le_refl _) _) b_p0_0, cellB ((Below.refl _ _).alloc (Nat.le_refl _) _) b_p1_0, cellB ((Below.refl _ _).alloc (Nat.le_refl _) _) b_p1_1⟩ | exact ⟨cellB ((Below.refl _ _).alloc (Nat.le_refl _) _).drew b_p0_0, cellB ((Below.refl _ _).alloc (Nat.le_refl _) _).drew b_p1_0, cellB ((Below.refl _ _).alloc (Nat.le_refl _) _).drew b_p1_1⟩ | exact ⟨hkb_p0_0, hkb_p1_0, hkb_p1_1⟩) (first
      | (clear gate0; go_at_call 17; refine (laws_toModel w4.drew (hR0.below (hB_w4.drew)) (hB_w4.drew).size hx0 hsm0).mono ?_; rintro e w5 ⟨A_t0, c_t0, rfl, h_t0, hb⟩; have hb : Below w4.heap.size w4 w5 := undrew hb; have hh : OwOps w5 (w4.heap.size) (w5.heap.size) (.slice A_t0 n0 c_t0) n0 (ds0.flatMap opF) := h_t0; clear h_t0; have hB_w5 : Below w.heap.size w w5 := below2 hB_w4 hb; have hs_w5 : w4.heap.size ≤ w5.heap.size := hb.size; replace b_p0_0 := cellB hb b_p0_0; replace b_p1_0 := cellB hb b_p1_0; replace b_p1_1 := cellB hb b_p1_1; (try replace pZ := (hb.block bz (by omega)).trans pZ); clear hb; have h_t0 := hh; clear hh)
      | (clear gate0; go_at_call 17; obtain ⟨wz, hwz⟩ : ∃ W, W = w4.alloc (.cells #[.slice none 0 0, .int .i64 0, .bool false] 32) := ⟨_, rfl⟩; rw [← hwz]; obtain ⟨bz, hbz⟩ : ∃ b, b = w4.heap.size := ⟨_, rfl⟩; rw [← hbz]; have hb : Below w4.heap.size w4 wz := hwz ▸ (Below.refl _ _).alloc (Nat.le_refl _) _; have hzz : bz < wz.heap.size := (by rw [hwz, hbz]; simp); have pZ : wz.heap[bz]? = some (.cells #[.slice none 0 0, .int .i64 0, .bool false] 32 (0, 0)) := (by rw [hwz, hbz]; exact heap_alloc_new _ _); have hbS : w4.heap.size ≤ bz := (by omega); clear hwz hbz; have hB_wz : Below w.heap.size w wz := below2 hB_w4 hb; have hs_wz : w4.heap.size ≤ wz.heap.size := hb.size; replace b_p0_0 := cellB hb b_p0_0; replace b_p1_0 := cellB hb b_p1_0; replace b_p1_1 := cellB hb b_p1_1; clear hb; refine (laws_toModel wz.drew (hR0.below (hB_wz.drew)) (hB_wz.drew).size hx0 hsm0).mono ?_; rintro e w5 ⟨A_t0, c_t0, rfl, h_t0, hb⟩; have hb : Below wz.heap.size wz w5 := undrew hb; have hh : OwOps w5 (w4.heap.size) (w5.heap.size) (.slice A_t0 n0 c_t0) n0 (ds0.flatMap opF) := h_t0.more hs_wz (Nat.le_refl _); clear h_t0; have hB_w5 : Below w.heap.size w w5 := below2 hB_wz hb; have hs_w5 : wz.heap.size ≤ w5.heap.size := hb.size; replace b_p0_0 := cellB hb b_p0_0; replace b_p1_0 := cellB hb b_p1_0; replace b_p1_1 := cellB hb b_p1_1; (try replace pZ := (hb.block bz (by omega)).trans pZ); clear hb; have h_t0 := hh; clear hh)
      | (clear gate1; go_at_call 18; refine (laws_toPair w5 (hR1.below (hB_w5)) (hS1.below (hB_w5)) (hB_w5).size (hB_w5).size hx1 hsm1).mono ?_; rintro e w6 ⟨A_t1, n_t1, c_t1, C_t1, m_t1, d_t1, rfl, h_t1, hb⟩; have hh : OwPr w6 (w5.heap.size) (w6.heap.size) A_t1 n_t1 c_t1 C_t1 m_t1 d_t1 xs1 ys1 := h_t1; clear h_t1; have hB_w6 : Below w.heap.size w w6 := below2 hB_w5 hb; have hs_w6 : w5.heap.size ≤ w6.heap.size := hb.size; replace h_t0 := h_t0.below hb; replace b_p0_0 := cellB hb b_p0_0; replace b_p1_0 := cellB hb b_p1_0; replace b_p1_1 := cellB hb b_p1_1; (try replace pZ := (hb.block bz (by omega)).trans pZ); clear hb; have h_t1 := hh; clear hh)
      | (clear gate1; go_at_call 18; obtain ⟨wz, hwz⟩ : ∃ W, W = w5.alloc (.cells #[.slice none 0 0, .int .i64 0, .bool false] 32) := ⟨_, rfl⟩; rw [← hwz]; obtain ⟨bz, hbz⟩ : ∃ b, b = w5.heap.size := ⟨_, rfl⟩; rw [← hbz]; have hb : Below w5.heap.size w5 wz := hwz ▸ (Below.refl _ _).alloc (Nat.le_refl _) _; have hzz : bz < wz.heap.size := (by rw [hwz, hbz]; simp); have pZ : wz.heap[bz]? = some (.cells #[.slice none 0 0, .int .i64 0, .bool false] 32 (0, 0)) := (by rw [hwz, hbz]; exact heap_alloc_new _ _); have hbS : w4.heap.size ≤ bz := (by omega); clear hwz hbz; have hB_wz : Below w.heap.size w wz := below2 hB_w5 hb; have hs_wz : w5.heap.size ≤ wz.heap.size := hb.size; replace h_t0 := h_t0.below hb; replace b_p0_0 := cellB hb b_p0_0; replace b_p1_0 := cellB hb b_p1_0; replace b_p1_1 := cellB hb b_p1_1; clear hb; refine (laws_toPair wz (hR1.below (hB_wz)) (hS1.below (hB_wz)) (hB_wz).size (hB_wz).size hx1 hsm1).mono ?_; rintro e w6 ⟨A_t1, n_t1, c_t1, C_t1, m_t1, d_t1, rfl, h_t1, hb⟩; have hh : OwPr w6 (w5.heap.size) (w6.heap.size) A_t1 n_t1 c_t1 C_t1 m_t1 d_t1 xs1 ys1 := h_t1.more hs_wz (Nat.le_refl _); clear h_t1; have hB_w6 : Below w.heap.size w w6 := below2 hB_wz hb; have hs_w6 : wz.heap.size ≤ w6.heap.size := hb.size; replace h_t0 := h_t0.below hb; replace b_p0_0 := cellB hb b_p0_0; replace b_p1_0 := cellB hb b_p1_0; replace b_p1_1 := cellB hb b_p1_1; (try replace pZ := (hb.block bz (by omega)).trans pZ); clear hb; have h_t1 := hh; clear hh)
      | (clear gate2; go_at_call 16; have hzc := pZ; clear hzc; refine (flatG (spec_MicroGrads w6 h_t0.rl (by omega) hx0 hsm0 h_t1.ri1 (by omega) (by have := h_t1.ri1.1; omega) h_t1.ri2 (by omega) (by have := h_t1.ri2.1; omega)) HGZ.out).mono ?_; rintro e w7 ⟨A_r0, c_r0, rfl, h_r0, hb⟩; have hB7 : Below w.heap.size w w7 := below2 hB_w6 hb; have hs7 : w6.heap.size ≤ w7.heap.size := hb.size; have hhx : OwRows w7 (w6.heap.size) (w7.heap.size) (.slice A_r0 rows.length c_r0) rows.length (rows.flatMap rowF) := h_r0; have p7 := (hb.block bz (by omega)).trans pZ; have q7_0 := blk_cell p7 0; have q7_1 := blk_cell p7 1; have q7_2 := blk_cell p7 2; have f7_0 := blk_free p7 0; have f7_1 := blk_free p7 1; have f7_2 := blk_free p7 2; simp at q7_0 q7_1 q7_2; have p8 := (blk_set (blk_set (blk_set p7 0 (.slice A_r0 rows.length c_r0)) 1 (.int .i64 loss)) 2 (.bool gsat)); have on8 : Only (fun b => bz ≤ b ∧ b < bz + 1) w7 (((w7.setCell ⟨bz, 0, none⟩ (.slice A_r0 rows.length c_r0)).setCell ⟨bz, 1, none⟩ (.int .i64 loss)).setCell ⟨bz, 2, none⟩ (.bool gsat)) := ((((Only.refl (fun b => bz ≤ b ∧ b < bz + 1) w7).set bz 0 ⟨Nat.le_refl _, Nat.lt_succ_self _⟩ (.slice A_r0 rows.length c_r0)).set bz 1 ⟨Nat.le_refl _, Nat.lt_succ_self _⟩ (.int .i64 loss)).set bz 2 ⟨Nat.le_refl _, Nat.lt_succ_self _⟩ (.bool gsat)); have s8 : (((w7.setCell ⟨bz, 0, none⟩ (.slice A_r0 rows.length c_r0)).setCell ⟨bz, 1, none⟩ (.int .i64 loss)).setCell ⟨bz, 2, none⟩ (.bool gsat)).heap.size = w7.heap.size := (by simp [World.setCell]); have r8_0 := blk_cell p8 0; have r8_1 := blk_cell p8 1; have r8_2 := blk_cell p8 2; simp at r8_0 r8_1 r8_2; have hn_r0 := hhx.farI on8 (by omega); have hnb_p0_0 := boxfarI on8 (cellB hb b_p0_0) (by show w.heap.size < bz ∨ bz + 1 ≤ w.heap.size; omega); have hnb_p1_0 := boxfarI on8 (cellB hb b_p1_0) (by show w.heap.size + 1 < bz ∨ bz + 1 ≤ w.heap.size + 1; omega); have hnb_p1_1 := boxfarI on8 (cellB hb b_p1_1) (by show w.heap.size + 1 < bz ∨ bz + 1 ≤ w.heap.size + 1; omega); have hR : ∃ rb_r0 lo_r0 hi_r0 Aq cq, Value.pointer (some ⟨bz, 0, none⟩) = .pointer (some ⟨rb_r0, 0, none⟩) ∧ (((w7.setCell ⟨bz, 0, none⟩ (.slice A_r0 rows.length c_r0)).setCell ⟨bz, 1, none⟩ (.int .i64 loss)).setCell ⟨bz, 2, none⟩ (.bool gsat)).cell? ⟨rb_r0, 0, none⟩ = some (.slice Aq rows.length cq) ∧ (((w7.setCell ⟨bz, 0, none⟩ (.slice A_r0 rows.length c_r0)).setCell ⟨bz, 1, none⟩ (.int .i64 loss)).setCell ⟨bz, 2, none⟩ (.bool gsat)).cell? ⟨rb_r0, 1, none⟩ = some (.int .i64 loss) ∧ (((w7.setCell ⟨bz, 0, none⟩ (.slice A_r0 rows.length c_r0)).setCell ⟨bz, 1, none⟩ (.int .i64 loss)).setCell ⟨bz, 2, none⟩ (.bool gsat)).cell? ⟨rb_r0, 2, none⟩ = some (.bool gsat) ∧ (((w7.setCell ⟨bz, 0, none⟩ (.slice A_r0 rows.length c_r0)).setCell ⟨bz, 1, none⟩ (.int .i64 loss)).setCell ⟨bz, 2, none⟩ (.bool gsat)).cell? ⟨w.heap.size, 0, none⟩ = some (.slice A0 n0 c0) ∧ (((w7.setCell ⟨bz, 0, none⟩ (.slice A_r0 rows.length c_r0)).setCell ⟨bz, 1, none⟩ (.int .i64 loss)).setCell ⟨bz, 2, none⟩ (.bool gsat)).cell? ⟨w.heap.size + 1, 0, none⟩ = some (.slice A1 n1 c1) ∧ (((w7.setCell ⟨bz, 0, none⟩ (.slice A_r0 rows.length c_r0)).setCell ⟨bz, 1, none⟩ (.int .i64 loss)).setCell ⟨bz, 2, none⟩ (.bool gsat)).cell? ⟨w.heap.size + 1, 1, none⟩ = some (.slice C1 m1 d1) ∧ OwRows (((w7.setCell ⟨bz, 0, none⟩ (.slice A_r0 rows.length c_r0)).setCell ⟨bz, 1, none⟩ (.int .i64 loss)).setCell ⟨bz, 2, none⟩ (.bool gsat)) (lo_r0) (hi_r0) (.slice Aq rows.length cq) rows.length (rows.flatMap rowF) ∧ Below w.heap.size w (((w7.setCell ⟨bz, 0, none⟩ (.slice A_r0 rows.length c_r0)).setCell ⟨bz, 1, none⟩ (.int .i64 loss)).setCell ⟨bz, 2, none⟩ (.bool gsat)) ∧ w4.heap.size ≤ (((w7.setCell ⟨bz, 0, none⟩ (.slice A_r0 rows.length c_r0)).setCell ⟨bz, 1, none⟩ (.int .i64 loss)).setCell ⟨bz, 2, none⟩ (.bool gsat)).heap.size ∧ (w4.heap.size ≤ lo_r0 ∧ lo_r0 ≤ hi_r0 ∧ hi_r0 ≤ (((w7.setCell ⟨bz, 0, none⟩ (.slice A_r0 rows.length c_r0)).setCell ⟨bz, 1, none⟩ (.int .i64 loss)).setCell ⟨bz, 2, none⟩ (.bool gsat)).heap.size) ∧ (w4.heap.size ≤ rb_r0 ∧ rb_r0 < (((w7.setCell ⟨bz, 0, none⟩ (.slice A_r0 rows.length c_r0)).setCell ⟨bz, 1, none⟩ (.int .i64 loss)).setCell ⟨bz, 2, none⟩ (.bool gsat)).heap.size) ∧ (rb_r0 < lo_r0 ∨ hi_r0 ≤ rb_r0) := ⟨bz, w6.heap.size, w7.heap.size, _, _, rfl, r8_0, r8_1, r8_2, hnb_p0_0, hnb_p1_0, hnb_p1_1, hn_r0, hB7.trans (on8.below (by omega) (fun q hq h3 => by have h4 : bz ≤ q ∧ q < bz + 1 := h3; omega)), by omega, ⟨by omega, by omega, by omega⟩, ⟨by omega, by omega⟩, by omega⟩; have hkb_p0_0 := hnb_p0_0; have hkb_p1_0 := hnb_p1_0; have hkb_p1_1 := hnb_p1_1; have HR := hide hR; clear s8 hR p7 pZ p8 on8 hn_r0 hnb_p0_0 hnb_p1_0 hnb_p1_1 r8_0 r8_1 r8_2; replace b_p0_0 := cellB hb b_p0_0; replace b_p1_0 := cellB hb b_p1_0; replace b_p1_1 := cellB hb b_p1_1; clear hhx h_r0 hb h_t0 h_t1)
      | (clear gate2; go_at_call 16; refine (flatG (spec_MicroGrads w6 h_t0.rl (by omega) hx0 hsm0 h_t1.ri1 (by omega) (by have := h_t1.ri1.1; omega) h_t1.ri2 (by omega) (by have := h_t1.ri2.1; omega)) HGZ.out).mono ?_; rintro e w7 ⟨A_r0, c_r0, rfl, h_r0, hb⟩; have hB7 : Below w.heap.size w w7 := below2 hB_w6 hb; have hs7 : w6.heap.size ≤ w7.heap.size := hb.size; have hhx : OwRows w7 (w6.heap.size) (w7.heap.size) (.slice A_r0 rows.length c_r0) rows.length (rows.flatMap rowF) := h_r0; have hZ : Below w7.heap.size w7 (w7.alloc (.cells #[.slice A_r0 rows.length c_r0, .int .i64 loss, .bool gsat] 32)) := (Below.refl _ _).alloc (Nat.le_refl _) _; have sZ : (w7.alloc (.cells #[.slice A_r0 rows.length c_r0, .int .i64 loss, .bool gsat] 32)).heap.size = w7.heap.size + 1 := (by simp); have hn_r0 := hhx.below hZ; have hnb_p0_0 := cellB hZ (cellB hb b_p0_0); have hnb_p1_0 := cellB hZ (cellB hb b_p1_0); have hnb_p1_1 := cellB hZ (cellB hb b_p1_1); have hR : ∃ rb_r0 lo_r0 hi_r0 Aq cq, Value.pointer (some ⟨w7.heap.size, 0, none⟩) = .pointer (some ⟨rb_r0, 0, none⟩) ∧ (w7.alloc (.cells #[.slice A_r0 rows.length c_r0, .int .i64 loss, .bool gsat] 32)).cell? ⟨rb_r0, 0, none⟩ = some (.slice Aq rows.length cq) ∧ (w7.alloc (.cells #[.slice A_r0 rows.length c_r0, .int .i64 loss, .bool gsat] 32)).cell? ⟨rb_r0, 1, none⟩ = some (.int .i64 loss) ∧ (w7.alloc (.cells #[.slice A_r0 rows.length c_r0, .int .i64 loss, .bool gsat] 32)).cell? ⟨rb_r0, 2, none⟩ = some (.bool gsat) ∧ (w7.alloc (.cells #[.slice A_r0 rows.length c_r0, .int .i64 loss, .bool gsat] 32)).cell? ⟨w.heap.size, 0, none⟩ = some (.slice A0 n0 c0) ∧ (w7.alloc (.cells #[.slice A_r0 rows.length c_r0, .int .i64 loss, .bool gsat] 32)).cell? ⟨w.heap.size + 1, 0, none⟩ = some (.slice A1 n1 c1) ∧ (w7.alloc (.cells #[.slice A_r0 rows.length c_r0, .int .i64 loss, .bool gsat] 32)).cell? ⟨w.heap.size + 1, 1, none⟩ = some (.slice C1 m1 d1) ∧ OwRows (w7.alloc (.cells #[.slice A_r0 rows.length c_r0, .int .i64 loss, .bool gsat] 32)) (lo_r0) (hi_r0) (.slice Aq rows.length cq) rows.length (rows.flatMap rowF) ∧ Below w.heap.size w (w7.alloc (.cells #[.slice A_r0 rows.length c_r0, .int .i64 loss, .bool gsat] 32)) ∧ w4.heap.size ≤ (w7.alloc (.cells #[.slice A_r0 rows.length c_r0, .int .i64 loss, .bool gsat] 32)).heap.size ∧ (w4.heap.size ≤ lo_r0 ∧ lo_r0 ≤ hi_r0 ∧ hi_r0 ≤ (w7.alloc (.cells #[.slice A_r0 rows.length c_r0, .int .i64 loss, .bool gsat] 32)).heap.size) ∧ (w4.heap.size ≤ rb_r0 ∧ rb_r0 < (w7.alloc (.cells #[.slice A_r0 rows.length c_r0, .int .i64 loss, .bool gsat] 32)).heap.size) ∧ (rb_r0 < lo_r0 ∨ hi_r0 ≤ rb_r0) := ⟨w7.heap.size, w6.heap.size, w7.heap.size, _, _, rfl, by simp, by simp, by simp, hnb_p0_0, hnb_p1_0, hnb_p1_1, hn_r0, below2 hB7 hZ, by omega, ⟨by omega, by omega, by omega⟩, ⟨by omega, by omega⟩, by omega⟩; have HR := hide hR; clear sZ hR hZ hn_r0 hnb_p0_0 hnb_p1_0 hnb_p1_1; replace b_p0_0 := cellB hb b_p0_0; replace b_p1_0 := cellB hb b_p1_0; replace b_p1_1 := cellB hb b_p1_1; clear hhx h_r0 hb h_t0 h_t1)
      | (clear gate2; go_at_call 16; obtain ⟨wz, hwz⟩ : ∃ W, W = w6.alloc (.cells #[.slice none 0 0, .int .i64 0, .bool false] 32) := ⟨_, rfl⟩; rw [← hwz]; obtain ⟨bz, hbz⟩ : ∃ b, b = w6.heap.size := ⟨_, rfl⟩; rw [← hbz]; have hb : Below w6.heap.size w6 wz := hwz ▸ (Below.refl _ _).alloc (Nat.le_refl _) _; have hzz : bz < wz.heap.size := (by rw [hwz, hbz]; simp); have pZ : wz.heap[bz]? = some (.cells #[.slice none 0 0, .int .i64 0, .bool false] 32 (0, 0)) := (by rw [hwz, hbz]; exact heap_alloc_new _ _); have hbS : w4.heap.size ≤ bz := (by omega); clear hwz hbz; have hB_wz : Below w.heap.size w wz := below2 hB_w6 hb; have hs_wz : w6.heap.size ≤ wz.heap.size := hb.size; replace h_t0 := h_t0.below hb; replace h_t1 := h_t1.below hb; replace b_p0_0 := cellB hb b_p0_0; replace b_p1_0 := cellB hb b_p1_0; replace b_p1_1 := cellB hb b_p1_1; clear hb; refine (flatG (spec_MicroGrads wz h_t0.rl (by omega) hx0 hsm0 h_t1.ri1 (by omega) (by have := h_t1.ri1.1; omega) h_t1.ri2 (by omega) (by have := h_t1.ri2.1; omega)) HGZ.out).mono ?_; rintro e w7 ⟨A_r0, c_r0, rfl, h_r0, hb⟩; have hB7 : Below w.heap.size w w7 := below2 hB_wz hb; have hs7 : wz.heap.size ≤ w7.heap.size := hb.size; have hhx : OwRows w7 (wz.heap.size) (w7.heap.size) (.slice A_r0 rows.length c_r0) rows.length (rows.flatMap rowF) := h_r0; have p7 := (hb.block bz (by omega)).trans pZ; have q7_0 := blk_cell p7 0; have q7_1 := blk_cell p7 1; have q7_2 := blk_cell p7 2; have f7_0 := blk_free p7 0; have f7_1 := blk_free p7 1; have f7_2 := blk_free p7 2; simp at q7_0 q7_1 q7_2; have p8 := (blk_set (blk_set (blk_set p7 0 (.slice A_r0 rows.length c_r0)) 1 (.int .i64 loss)) 2 (.bool gsat)); have on8 : Only (fun b => bz ≤ b ∧ b < bz + 1) w7 (((w7.setCell ⟨bz, 0, none⟩ (.slice A_r0 rows.length c_r0)).setCell ⟨bz, 1, none⟩ (.int .i64 loss)).setCell ⟨bz, 2, none⟩ (.bool gsat)) := ((((Only.refl (fun b => bz ≤ b ∧ b < bz + 1) w7).set bz 0 ⟨Nat.le_refl _, Nat.lt_succ_self _⟩ (.slice A_r0 rows.length c_r0)).set bz 1 ⟨Nat.le_refl _, Nat.lt_succ_self _⟩ (.int .i64 loss)).set bz 2 ⟨Nat.le_refl _, Nat.lt_succ_self _⟩ (.bool gsat)); have s8 : (((w7.setCell ⟨bz, 0, none⟩ (.slice A_r0 rows.length c_r0)).setCell ⟨bz, 1, none⟩ (.int .i64 loss)).setCell ⟨bz, 2, none⟩ (.bool gsat)).heap.size = w7.heap.size := (by simp [World.setCell]); have r8_0 := blk_cell p8 0; have r8_1 := blk_cell p8 1; have r8_2 := blk_cell p8 2; simp at r8_0 r8_1 r8_2; have hn_r0 := hhx.farI on8 (by omega); have hnb_p0_0 := boxfarI on8 (cellB hb b_p0_0) (by show w.heap.size < bz ∨ bz + 1 ≤ w.heap.size; omega); have hnb_p1_0 := boxfarI on8 (cellB hb b_p1_0) (by show w.heap.size + 1 < bz ∨ bz + 1 ≤ w.heap.size + 1; omega); have hnb_p1_1 := boxfarI on8 (cellB hb b_p1_1) (by show w.heap.size + 1 < bz ∨ bz + 1 ≤ w.heap.size + 1; omega); have hR : ∃ rb_r0 lo_r0 hi_r0 Aq cq, Value.pointer (some ⟨bz, 0, none⟩) = .pointer (some ⟨rb_r0, 0, none⟩) ∧ (((w7.setCell ⟨bz, 0, none⟩ (.slice A_r0 rows.length c_r0)).setCell ⟨bz, 1, none⟩ (.int .i64 loss)).setCell ⟨bz, 2, none⟩ (.bool gsat)).cell? ⟨rb_r0, 0, none⟩ = some (.slice Aq rows.length cq) ∧ (((w7.setCell ⟨bz, 0, none⟩ (.slice A_r0 rows.length c_r0)).setCell ⟨bz, 1, none⟩ (.int .i64 loss)).setCell ⟨bz, 2, none⟩ (.bool gsat)).cell? ⟨rb_r0, 1, none⟩ = some (.int .i64 loss) ∧ (((w7.setCell ⟨bz, 0, none⟩ (.slice A_r0 rows.length c_r0)).setCell ⟨bz, 1, none⟩ (.int .i64 loss)).setCell ⟨bz, 2, none⟩ (.bool gsat)).cell? ⟨rb_r0, 2, none⟩ = some (.bool gsat) ∧ (((w7.setCell ⟨bz, 0, none⟩ (.slice A_r0 rows.length c_r0)).setCell ⟨bz, 1, none⟩ (.int .i64 loss)).setCell ⟨bz, 2, none⟩ (.bool gsat)).cell? ⟨w.heap.size, 0, none⟩ = some (.slice A0 n0 c0) ∧ (((w7.setCell ⟨bz, 0, none⟩ (.slice A_r0 rows.length c_r0)).setCell ⟨bz, 1, none⟩ (.int .i64 loss)).setCell ⟨bz, 2, none⟩ (.bool gsat)).cell? ⟨w.heap.size + 1, 0, none⟩ = some (.slice A1 n1 c1) ∧ (((w7.setCell ⟨bz, 0, none⟩ (.slice A_r0 rows.length c_r0)).setCell ⟨bz, 1, none⟩ (.int .i64 loss)).setCell ⟨bz, 2, none⟩ (.bool gsat)).cell? ⟨w.heap.size + 1, 1, none⟩ = some (.slice C1 m1 d1) ∧ OwRows (((w7.setCell ⟨bz, 0, none⟩ (.slice A_r0 rows.length c_r0)).setCell ⟨bz, 1, none⟩ (.int .i64 loss)).setCell ⟨bz, 2, none⟩ (.bool gsat)) (lo_r0) (hi_r0) (.slice Aq rows.length cq) rows.length (rows.flatMap rowF) ∧ Below w.heap.size w (((w7.setCell ⟨bz, 0, none⟩ (.slice A_r0 rows.length c_r0)).setCell ⟨bz, 1, none⟩ (.int .i64 loss)).setCell ⟨bz, 2, none⟩ (.bool gsat)) ∧ w4.heap.size ≤ (((w7.setCell ⟨bz, 0, none⟩ (.slice A_r0 rows.length c_r0)).setCell ⟨bz, 1, none⟩ (.int .i64 loss)).setCell ⟨bz, 2, none⟩ (.bool gsat)).heap.size ∧ (w4.heap.size ≤ lo_r0 ∧ lo_r0 ≤ hi_r0 ∧ hi_r0 ≤ (((w7.setCell ⟨bz, 0, none⟩ (.slice A_r0 rows.length c_r0)).setCell ⟨bz, 1, none⟩ (.int .i64 loss)).setCell ⟨bz, 2, none⟩ (.bool gsat)).heap.size) ∧ (w4.heap.size ≤ rb_r0 ∧ rb_r0 < (((w7.setCell ⟨bz, 0, none⟩ (.slice A_r0 rows.length c_r0)).setCell ⟨bz, 1, none⟩ (.int .i64 loss)).setCell ⟨bz, 2, none⟩ (.bool gsat)).heap.size) ∧ (rb_r0 < lo_r0 ∨ hi_r0 ≤ rb_r0) := ⟨bz, wz.heap.size, w7.heap.size, _, _, rfl, r8_0, r8_1, r8_2, hnb_p0_0, hnb_p1_0, hnb_p1_1, hn_r0, hB7.trans (on8.below (by omega) (fun q hq h3 => by have h4 : bz ≤ q ∧ q < bz + 1 := h3; omega)), by omega, ⟨by omega, by omega, by omega⟩, ⟨by omega, by omega⟩, by omega⟩; have hkb_p0_0 := hnb_p0_0; have hkb_p1_0 := hnb_p1_0; have hkb_p1_1 := hnb_p1_1; have HR := hide hR; clear s8 hR p7 pZ p8 on8 hn_r0 hnb_p0_0 hnb_p1_0 hnb_p1_1 r8_0 r8_1 r8_2; replace b_p0_0 := cellB hb b_p0_0; replace b_p1_0 := cellB hb b_p1_0; replace b_p1_1 := cellB hb b_p1_1; clear hhx h_r0 hb h_t0 h_t1))
    all_goals
      go_wp2_with fail
      go_meet
      case rel => exact HR.out
  clear b_p0_0 b_p1_0 b_p1_1
  rename World => w7
  obtain ⟨rb_r0, lo_r0, hi_r0, A_r0, c_r0, rfl, c_0, c_1, c_2, b_p0_0, b_p1_0, b_p1_1, h_r0, hB_w7, hs_w7, ⟨hlo_r0, hlh_r0, hhi_r0⟩, ⟨hrb_r0, hrc_r0⟩, hrd_r0⟩ := hcut
  have b_r0_0 := c_0
  clear c_0
  have b_r0_1 := c_1
  clear c_1
  have b_r0_2 := c_2
  clear c_2
  go_wp2_with fail
  refine (laws_toModel w7 (hR0.below (hB_w7)) (hB_w7).size hx0 hsm0).mono ?_
  rintro e w8 ⟨A_x0, c_x0, rfl, h_x0, hb⟩
  have hh : OwOps w8 (w7.heap.size) (w8.heap.size) (.slice A_x0 n0 c_x0) n0 (ds0.flatMap opF) := h_x0
  clear h_x0
  have hB_w8 : Below w.heap.size w w8 := below2 hB_w7 hb
  have hs_w8 : w7.heap.size ≤ w8.heap.size := hb.size
  replace h_r0 := h_r0.below hb
  replace b_p0_0 := cellB hb b_p0_0
  replace b_p1_0 := cellB hb b_p1_0
  replace b_p1_1 := cellB hb b_p1_1
  replace b_r0_0 := cellB hb b_r0_0
  replace b_r0_1 := cellB hb b_r0_1
  replace b_r0_2 := cellB hb b_r0_2
  clear hb
  have h_x0 := hh
  clear hh
  have ba_p0_0 := fun o => cellB ((Below.refl _ _).alloc (Nat.le_refl _) o) b_p0_0
  have ba_p1_0 := fun o => cellB ((Below.refl _ _).alloc (Nat.le_refl _) o) b_p1_0
  have ba_p1_1 := fun o => cellB ((Below.refl _ _).alloc (Nat.le_refl _) o) b_p1_1
  have ba_r0_0 := fun o => cellB ((Below.refl _ _).alloc (Nat.le_refl _) o) b_r0_0
  have ba_r0_1 := fun o => cellB ((Below.refl _ _).alloc (Nat.le_refl _) o) b_r0_1
  have ba_r0_2 := fun o => cellB ((Below.refl _ _).alloc (Nat.le_refl _) o) b_r0_2
  go_wp2_with fail
  clear ba_p0_0 ba_p1_0 ba_p1_1 ba_r0_0 ba_r0_1 ba_r0_2
  obtain ⟨w9, hw⟩ : ∃ W, W = w8.alloc (.cells #[.slice A_x0 n0 c_x0] 36) := ⟨_, rfl⟩
  have hb : Below w8.heap.size w8 w9 := hw ▸ (Below.refl _ _).alloc (Nat.le_refl _) _
  have hz_x0 : w8.heap.size < w9.heap.size := by rw [hw]; simp
  have c_0 : w9.cell? ⟨w8.heap.size, 0, none⟩ = some (.slice A_x0 n0 c_x0) := by rw [hw]; simp
  rw [← hw]
  clear hw
  have hB_w9 : Below w.heap.size w w9 := below2 hB_w8 hb
  have hs_w9 : w8.heap.size ≤ w9.heap.size := hb.size
  replace h_r0 := h_r0.below hb
  replace h_x0 := h_x0.below hb
  replace b_p0_0 := cellB hb b_p0_0
  replace b_p1_0 := cellB hb b_p1_0
  replace b_p1_1 := cellB hb b_p1_1
  replace b_r0_0 := cellB hb b_r0_0
  replace b_r0_1 := cellB hb b_r0_1
  replace b_r0_2 := cellB hb b_r0_2
  clear hb
  have b_x0_0 := c_0
  clear c_0
  refine (laws_toPair w9 (hR1.below (hB_w9)) (hS1.below (hB_w9)) (hB_w9).size (hB_w9).size hx1 hsm1).mono ?_
  rintro e w10 ⟨A_x1, n_x1, c_x1, C_x1, m_x1, d_x1, rfl, h_x1, hb⟩
  have hh : OwPr w10 (w9.heap.size) (w10.heap.size) A_x1 n_x1 c_x1 C_x1 m_x1 d_x1 xs1 ys1 := h_x1
  clear h_x1
  have hB_w10 : Below w.heap.size w w10 := below2 hB_w9 hb
  have hs_w10 : w9.heap.size ≤ w10.heap.size := hb.size
  replace h_r0 := h_r0.below hb
  replace h_x0 := h_x0.below hb
  replace b_p0_0 := cellB hb b_p0_0
  replace b_p1_0 := cellB hb b_p1_0
  replace b_p1_1 := cellB hb b_p1_1
  replace b_r0_0 := cellB hb b_r0_0
  replace b_r0_1 := cellB hb b_r0_1
  replace b_r0_2 := cellB hb b_r0_2
  replace b_x0_0 := cellB hb b_x0_0
  clear hb
  have h_x1 := hh
  clear hh
  have ba_p0_0 := fun o => cellB ((Below.refl _ _).alloc (Nat.le_refl _) o) b_p0_0
  have ba_p1_0 := fun o => cellB ((Below.refl _ _).alloc (Nat.le_refl _) o) b_p1_0
  have ba_p1_1 := fun o => cellB ((Below.refl _ _).alloc (Nat.le_refl _) o) b_p1_1
  have ba_r0_0 := fun o => cellB ((Below.refl _ _).alloc (Nat.le_refl _) o) b_r0_0
  have ba_r0_1 := fun o => cellB ((Below.refl _ _).alloc (Nat.le_refl _) o) b_r0_1
  have ba_r0_2 := fun o => cellB ((Below.refl _ _).alloc (Nat.le_refl _) o) b_r0_2
  have ba_x0_0 := fun o => cellB ((Below.refl _ _).alloc (Nat.le_refl _) o) b_x0_0
  go_wp2_with fail
  clear ba_p0_0 ba_p1_0 ba_p1_1 ba_r0_0 ba_r0_1 ba_r0_2 ba_x0_0
  obtain ⟨w11, hw⟩ : ∃ W, W = w10.alloc (.cells #[.slice A_x1 n_x1 c_x1, .slice C_x1 m_x1 d_x1] 38) := ⟨_, rfl⟩
  have hb : Below w10.heap.size w10 w11 := hw ▸ (Below.refl _ _).alloc (Nat.le_refl _) _
  have hz_x1 : w10.heap.size < w11.heap.size := by rw [hw]; simp
  have c_0 : w11.cell? ⟨w10.heap.size, 0, none⟩ = some (.slice A_x1 n_x1 c_x1) := by rw [hw]; simp
  have c_1 : w11.cell? ⟨w10.heap.size, 1, none⟩ = some (.slice C_x1 m_x1 d_x1) := by rw [hw]; simp
  rw [← hw]
  clear hw
  have hB_w11 : Below w.heap.size w w11 := below2 hB_w10 hb
  have hs_w11 : w10.heap.size ≤ w11.heap.size := hb.size
  replace h_r0 := h_r0.below hb
  replace h_x0 := h_x0.below hb
  replace h_x1 := h_x1.below hb
  replace b_p0_0 := cellB hb b_p0_0
  replace b_p1_0 := cellB hb b_p1_0
  replace b_p1_1 := cellB hb b_p1_1
  replace b_r0_0 := cellB hb b_r0_0
  replace b_r0_1 := cellB hb b_r0_1
  replace b_r0_2 := cellB hb b_r0_2
  replace b_x0_0 := cellB hb b_x0_0
  clear hb
  have b_x1_0 := c_0
  clear c_0
  have b_x1_1 := c_1
  clear c_1
  refine (flatG (impl_MicroGrads w11 h_x0.rl (by omega) hx0 hsm0 h_x1.ri1 (by omega) (by have := h_x1.ri1.1; omega) h_x1.ri2 (by omega) (by have := h_x1.ri2.1; omega)) HGZ.out).mono ?_
  rintro e w12 ⟨A_g0, c_g0, rfl, h_g0, hb⟩
  have hh_g0 : OwRows w12 (w11.heap.size) (w12.heap.size) (.slice A_g0 rows.length c_g0) rows.length (rows.flatMap rowF) := h_g0
  clear h_g0
  have hB_w12 : Below w.heap.size w w12 := below2 hB_w11 hb
  have hs_w12 : w11.heap.size ≤ w12.heap.size := hb.size
  replace h_r0 := h_r0.below hb
  replace h_x0 := h_x0.below hb
  replace h_x1 := h_x1.below hb
  replace b_p0_0 := cellB hb b_p0_0
  replace b_p1_0 := cellB hb b_p1_0
  replace b_p1_1 := cellB hb b_p1_1
  replace b_r0_0 := cellB hb b_r0_0
  replace b_r0_1 := cellB hb b_r0_1
  replace b_r0_2 := cellB hb b_r0_2
  replace b_x0_0 := cellB hb b_x0_0
  replace b_x1_0 := cellB hb b_x1_0
  replace b_x1_1 := cellB hb b_x1_1
  clear hb
  have h_g0 := hh_g0
  clear hh_g0
  have ba_p0_0 := fun o => cellB ((Below.refl _ _).alloc (Nat.le_refl _) o) b_p0_0
  have ba_p1_0 := fun o => cellB ((Below.refl _ _).alloc (Nat.le_refl _) o) b_p1_0
  have ba_p1_1 := fun o => cellB ((Below.refl _ _).alloc (Nat.le_refl _) o) b_p1_1
  have ba_r0_0 := fun o => cellB ((Below.refl _ _).alloc (Nat.le_refl _) o) b_r0_0
  have ba_r0_1 := fun o => cellB ((Below.refl _ _).alloc (Nat.le_refl _) o) b_r0_1
  have ba_r0_2 := fun o => cellB ((Below.refl _ _).alloc (Nat.le_refl _) o) b_r0_2
  have ba_x0_0 := fun o => cellB ((Below.refl _ _).alloc (Nat.le_refl _) o) b_x0_0
  have ba_x1_0 := fun o => cellB ((Below.refl _ _).alloc (Nat.le_refl _) o) b_x1_0
  have ba_x1_1 := fun o => cellB ((Below.refl _ _).alloc (Nat.le_refl _) o) b_x1_1
  go_wp2_with fail
  clear ba_p0_0 ba_p1_0 ba_p1_1 ba_r0_0 ba_r0_1 ba_r0_2 ba_x0_0 ba_x1_0 ba_x1_1
  obtain ⟨w13, hw⟩ : ∃ W, W = w12.alloc (.cells #[.slice A_g0 rows.length c_g0, .int .i64 loss, .bool gsat] 32) := ⟨_, rfl⟩
  have hb : Below w12.heap.size w12 w13 := hw ▸ (Below.refl _ _).alloc (Nat.le_refl _) _
  have hz_g0 : w12.heap.size < w13.heap.size := by rw [hw]; simp
  have c_0 : w13.cell? ⟨w12.heap.size, 0, none⟩ = some (.slice A_g0 rows.length c_g0) := by rw [hw]; simp
  have c_1 : w13.cell? ⟨w12.heap.size, 1, none⟩ = some (.int .i64 loss) := by rw [hw]; simp
  have c_2 : w13.cell? ⟨w12.heap.size, 2, none⟩ = some (.bool gsat) := by rw [hw]; simp
  rw [← hw]
  clear hw
  have hB_w13 : Below w.heap.size w w13 := below2 hB_w12 hb
  have hs_w13 : w12.heap.size ≤ w13.heap.size := hb.size
  replace h_r0 := h_r0.below hb
  replace h_x0 := h_x0.below hb
  replace h_x1 := h_x1.below hb
  replace h_g0 := h_g0.below hb
  replace b_p0_0 := cellB hb b_p0_0
  replace b_p1_0 := cellB hb b_p1_0
  replace b_p1_1 := cellB hb b_p1_1
  replace b_r0_0 := cellB hb b_r0_0
  replace b_r0_1 := cellB hb b_r0_1
  replace b_r0_2 := cellB hb b_r0_2
  replace b_x0_0 := cellB hb b_x0_0
  replace b_x1_0 := cellB hb b_x1_0
  replace b_x1_1 := cellB hb b_x1_1
  clear hb
  have b_g0_0 := c_0
  clear c_0
  have b_g0_1 := c_1
  clear c_1
  have b_g0_2 := c_2
  clear c_2
  refine (laws_eqGrads loss gsat w13 h_g0.rl h_r0.rl (by omega) (by omega) hgn hgsm).mono ?_
  rintro e w14 ⟨rfl, hb⟩
  have hB_w14 : Below w.heap.size w w14 := below2 hB_w13 hb
  have hs_w14 : w13.heap.size ≤ w14.heap.size := hb.size
  replace h_r0 := h_r0.below hb
  replace h_x0 := h_x0.below hb
  replace h_x1 := h_x1.below hb
  replace h_g0 := h_g0.below hb
  replace b_p0_0 := cellB hb b_p0_0
  replace b_p1_0 := cellB hb b_p1_0
  replace b_p1_1 := cellB hb b_p1_1
  replace b_r0_0 := cellB hb b_r0_0
  replace b_r0_1 := cellB hb b_r0_1
  replace b_r0_2 := cellB hb b_r0_2
  replace b_x0_0 := cellB hb b_x0_0
  replace b_x1_0 := cellB hb b_x1_0
  replace b_x1_1 := cellB hb b_x1_1
  replace b_g0_0 := cellB hb b_g0_0
  replace b_g0_1 := cellB hb b_g0_1
  replace b_g0_2 := cellB hb b_g0_2
  clear hb
  go_wp2_with fail
  have gate0 : True := trivial
  have gate1 : True := trivial
  go_region_held3 (fun W => W.cell? ⟨w.heap.size, 0, none⟩ = some (.slice A0 n0 c0) ∧ W.cell? ⟨w.heap.size + 1, 0, none⟩ = some (.slice A1 n1 c1) ∧ W.cell? ⟨w.heap.size + 1, 1, none⟩ = some (.slice C1 m1 d1) ∧ W.cell? ⟨rb_r0, 0, none⟩ = some (.slice A_r0 rows.length c_r0) ∧ W.cell? ⟨rb_r0, 1, none⟩ = some (.int .i64 loss) ∧ W.cell? ⟨rb_r0, 2, none⟩ = some (.bool gsat) ∧ W.cell? ⟨w8.heap.size, 0, none⟩ = some (.slice A_x0 n0 c_x0) ∧ W.cell? ⟨w10.heap.size, 0, none⟩ = some (.slice A_x1 n_x1 c_x1) ∧ W.cell? ⟨w10.heap.size, 1, none⟩ = some (.slice C_x1 m_x1 d_x1) ∧ W.cell? ⟨w12.heap.size, 0, none⟩ = some (.slice A_g0 rows.length c_g0) ∧ W.cell? ⟨w12.heap.size, 1, none⟩ = some (.int .i64 loss) ∧ W.cell? ⟨w12.heap.size, 2, none⟩ = some (.bool gsat)) (first | exact ⟨b_p0_0, b_p1_0, b_p1_1, b_r0_0, b_r0_1, b_r0_2, b_x0_0, b_x1_0, b_x1_1, b_g0_0, b_g0_1, b_g0_2⟩) (first
    | (clear gate0; go_at_call 17; refine (laws_toModel w14.drew (hR0.below (hB_w14.drew)) (hB_w14.drew).size hx0 hsm0).mono ?_; rintro e w15 ⟨A_y, c_y, rfl, h_y, hb⟩; have hb : Below w14.heap.size w14 w15 := undrew hb; have hh : OwOps w15 (w14.heap.size) (w15.heap.size) (.slice A_y n0 c_y) n0 (ds0.flatMap opF) := h_y; clear h_y; have hB_w15 : Below w.heap.size w w15 := below2 hB_w14 hb; have hs_w15 : w14.heap.size ≤ w15.heap.size := hb.size; replace h_r0 := h_r0.below hb; replace h_x0 := h_x0.below hb; replace h_x1 := h_x1.below hb; replace h_g0 := h_g0.below hb; replace b_p0_0 := cellB hb b_p0_0; replace b_p1_0 := cellB hb b_p1_0; replace b_p1_1 := cellB hb b_p1_1; replace b_r0_0 := cellB hb b_r0_0; replace b_r0_1 := cellB hb b_r0_1; replace b_r0_2 := cellB hb b_r0_2; replace b_x0_0 := cellB hb b_x0_0; replace b_x1_0 := cellB hb b_x1_0; replace b_x1_1 := cellB hb b_x1_1; replace b_g0_0 := cellB hb b_g0_0; replace b_g0_1 := cellB hb b_g0_1; replace b_g0_2 := cellB hb b_g0_2; clear hb; have h_y := hh; clear hh)
    | (clear gate1; go_at_call 21; refine (laws_eqModel w15 h_x0.rl h_y.rl (by omega) (by omega) hx0 hsm0).mono ?_; rintro e w16 ⟨rfl, hb⟩; have hB_w16 : Below w.heap.size w w16 := below2 hB_w15 hb; have hs_w16 : w15.heap.size ≤ w16.heap.size := hb.size; replace h_r0 := h_r0.below hb; replace h_x0 := h_x0.below hb; replace h_x1 := h_x1.below hb; replace h_g0 := h_g0.below hb; replace h_y := h_y.below hb; replace b_p0_0 := cellB hb b_p0_0; replace b_p1_0 := cellB hb b_p1_0; replace b_p1_1 := cellB hb b_p1_1; replace b_r0_0 := cellB hb b_r0_0; replace b_r0_1 := cellB hb b_r0_1; replace b_r0_2 := cellB hb b_r0_2; replace b_x0_0 := cellB hb b_x0_0; replace b_x1_0 := cellB hb b_x1_0; replace b_x1_1 := cellB hb b_x1_1; replace b_g0_0 := cellB hb b_g0_0; replace b_g0_1 := cellB hb b_g0_1; replace b_g0_2 := cellB hb b_g0_2; clear hb))
  clear h_y
  go_wp2_with fail
  have gate0 : True := trivial
  have gate1 : True := trivial
  go_region_held3 (fun W => W.cell? ⟨w.heap.size, 0, none⟩ = some (.slice A0 n0 c0) ∧ W.cell? ⟨w.heap.size + 1, 0, none⟩ = some (.slice A1 n1 c1) ∧ W.cell? ⟨w.heap.size + 1, 1, none⟩ = some (.slice C1 m1 d1) ∧ W.cell? ⟨rb_r0, 0, none⟩ = some (.slice A_r0 rows.length c_r0) ∧ W.cell? ⟨rb_r0, 1, none⟩ = some (.int .i64 loss) ∧ W.cell? ⟨rb_r0, 2, none⟩ = some (.bool gsat) ∧ W.cell? ⟨w8.heap.size, 0, none⟩ = some (.slice A_x0 n0 c_x0) ∧ W.cell? ⟨w10.heap.size, 0, none⟩ = some (.slice A_x1 n_x1 c_x1) ∧ W.cell? ⟨w10.heap.size, 1, none⟩ = some (.slice C_x1 m_x1 d_x1) ∧ W.cell? ⟨w12.heap.size, 0, none⟩ = some (.slice A_g0 rows.length c_g0) ∧ W.cell? ⟨w12.heap.size, 1, none⟩ = some (.int .i64 loss) ∧ W.cell? ⟨w12.heap.size, 2, none⟩ = some (.bool gsat)) (first | exact ⟨b_p0_0, b_p1_0, b_p1_1, b_r0_0, b_r0_1, b_r0_2, b_x0_0, b_x1_0, b_x1_1, b_g0_0, b_g0_1, b_g0_2⟩) (first
    | (clear gate0; go_at_call 18; refine (laws_toPair w16.drew (hR1.below (hB_w16.drew)) (hS1.below (hB_w16.drew)) (hB_w16.drew).size (hB_w16.drew).size hx1 hsm1).mono ?_; rintro e w17 ⟨A_y, n_y, c_y, C_y, m_y, d_y, rfl, h_y, hb⟩; have hb : Below w16.heap.size w16 w17 := undrew hb; have hh : OwPr w17 (w16.heap.size) (w17.heap.size) A_y n_y c_y C_y m_y d_y xs1 ys1 := h_y; clear h_y; have hB_w17 : Below w.heap.size w w17 := below2 hB_w16 hb; have hs_w17 : w16.heap.size ≤ w17.heap.size := hb.size; replace h_r0 := h_r0.below hb; replace h_x0 := h_x0.below hb; replace h_x1 := h_x1.below hb; replace h_g0 := h_g0.below hb; replace b_p0_0 := cellB hb b_p0_0; replace b_p1_0 := cellB hb b_p1_0; replace b_p1_1 := cellB hb b_p1_1; replace b_r0_0 := cellB hb b_r0_0; replace b_r0_1 := cellB hb b_r0_1; replace b_r0_2 := cellB hb b_r0_2; replace b_x0_0 := cellB hb b_x0_0; replace b_x1_0 := cellB hb b_x1_0; replace b_x1_1 := cellB hb b_x1_1; replace b_g0_0 := cellB hb b_g0_0; replace b_g0_1 := cellB hb b_g0_1; replace b_g0_2 := cellB hb b_g0_2; clear hb; have h_y := hh; clear hh)
    | (clear gate1; go_at_call 22; refine (laws_eqPair w17 h_x1.ri1 h_x1.ri2 h_y.ri1 h_y.ri2 (by omega) (by omega) (by omega) (by omega) hx1 hsm1).mono ?_; rintro e w18 ⟨rfl, hb⟩; have hB_w18 : Below w.heap.size w w18 := below2 hB_w17 hb; have hs_w18 : w17.heap.size ≤ w18.heap.size := hb.size; replace h_r0 := h_r0.below hb; replace h_x0 := h_x0.below hb; replace h_x1 := h_x1.below hb; replace h_g0 := h_g0.below hb; replace h_y := h_y.below hb; replace b_p0_0 := cellB hb b_p0_0; replace b_p1_0 := cellB hb b_p1_0; replace b_p1_1 := cellB hb b_p1_1; replace b_r0_0 := cellB hb b_r0_0; replace b_r0_1 := cellB hb b_r0_1; replace b_r0_2 := cellB hb b_r0_2; replace b_x0_0 := cellB hb b_x0_0; replace b_x1_0 := cellB hb b_x1_0; replace b_x1_1 := cellB hb b_x1_1; replace b_g0_0 := cellB hb b_g0_0; replace b_g0_1 := cellB hb b_g0_1; replace b_g0_2 := cellB hb b_g0_2; clear hb))
  clear h_y
  go_wp2_with fail
  refine (laws_markModel (1) w18 h_x0 hx0 hsm0 (by omega) (by omega)).mono ?_
  rintro e w19 ⟨rfl, hm, ho⟩
  have hB_w19 : Below w.heap.size w w19 := hB_w18.trans (ho.below hB_w18.size (fun q hq h3 => by have h4 : w7.heap.size ≤ q ∧ q < w8.heap.size := h3; omega))
  have hs_w19 : w18.heap.size ≤ w19.heap.size := ho.size
  replace h_r0 := h_r0.farI ho (by omega)
  replace h_x1 := h_x1.farI ho (by omega)
  replace h_g0 := h_g0.farI ho (by omega)
  replace b_p0_0 := boxfarI ho b_p0_0 (by show w.heap.size < w7.heap.size ∨ w8.heap.size ≤ w.heap.size; omega)
  replace b_p1_0 := boxfarI ho b_p1_0 (by show w.heap.size + 1 < w7.heap.size ∨ w8.heap.size ≤ w.heap.size + 1; omega)
  replace b_p1_1 := boxfarI ho b_p1_1 (by show w.heap.size + 1 < w7.heap.size ∨ w8.heap.size ≤ w.heap.size + 1; omega)
  replace b_r0_0 := boxfarI ho b_r0_0 (by show rb_r0 < w7.heap.size ∨ w8.heap.size ≤ rb_r0; omega)
  replace b_r0_1 := boxfarI ho b_r0_1 (by show rb_r0 < w7.heap.size ∨ w8.heap.size ≤ rb_r0; omega)
  replace b_r0_2 := boxfarI ho b_r0_2 (by show rb_r0 < w7.heap.size ∨ w8.heap.size ≤ rb_r0; omega)
  replace b_x0_0 := boxfarI ho b_x0_0 (by show w8.heap.size < w7.heap.size ∨ w8.heap.size ≤ w8.heap.size; omega)
  replace b_x1_0 := boxfarI ho b_x1_0 (by show w10.heap.size < w7.heap.size ∨ w8.heap.size ≤ w10.heap.size; omega)
  replace b_x1_1 := boxfarI ho b_x1_1 (by show w10.heap.size < w7.heap.size ∨ w8.heap.size ≤ w10.heap.size; omega)
  replace b_g0_0 := boxfarI ho b_g0_0 (by show w12.heap.size < w7.heap.size ∨ w8.heap.size ≤ w12.heap.size; omega)
  replace b_g0_1 := boxfarI ho b_g0_1 (by show w12.heap.size < w7.heap.size ∨ w8.heap.size ≤ w12.heap.size; omega)
  replace b_g0_2 := boxfarI ho b_g0_2 (by show w12.heap.size < w7.heap.size ∨ w8.heap.size ≤ w12.heap.size; omega)
  clear h_x0 ho
  have h_x0 := hm
  clear hm
  go_wp2_with fail
  refine (laws_markPair (1 + (mkN (ds0.flatMap opF) : Int)) w19 h_x1 hx1 hsm1 (by omega) (by omega)).mono ?_
  rintro e w20 ⟨rfl, hm, ho⟩
  have hB_w20 : Below w.heap.size w w20 := hB_w19.trans (ho.below hB_w19.size (fun q hq h3 => by have h4 : w9.heap.size ≤ q ∧ q < w10.heap.size := h3; omega))
  have hs_w20 : w19.heap.size ≤ w20.heap.size := ho.size
  replace h_r0 := h_r0.farI ho (by omega)
  replace h_x0 := h_x0.farI ho (by omega)
  replace h_g0 := h_g0.farI ho (by omega)
  replace b_p0_0 := boxfarI ho b_p0_0 (by show w.heap.size < w9.heap.size ∨ w10.heap.size ≤ w.heap.size; omega)
  replace b_p1_0 := boxfarI ho b_p1_0 (by show w.heap.size + 1 < w9.heap.size ∨ w10.heap.size ≤ w.heap.size + 1; omega)
  replace b_p1_1 := boxfarI ho b_p1_1 (by show w.heap.size + 1 < w9.heap.size ∨ w10.heap.size ≤ w.heap.size + 1; omega)
  replace b_r0_0 := boxfarI ho b_r0_0 (by show rb_r0 < w9.heap.size ∨ w10.heap.size ≤ rb_r0; omega)
  replace b_r0_1 := boxfarI ho b_r0_1 (by show rb_r0 < w9.heap.size ∨ w10.heap.size ≤ rb_r0; omega)
  replace b_r0_2 := boxfarI ho b_r0_2 (by show rb_r0 < w9.heap.size ∨ w10.heap.size ≤ rb_r0; omega)
  replace b_x0_0 := boxfarI ho b_x0_0 (by show w8.heap.size < w9.heap.size ∨ w10.heap.size ≤ w8.heap.size; omega)
  replace b_x1_0 := boxfarI ho b_x1_0 (by show w10.heap.size < w9.heap.size ∨ w10.heap.size ≤ w10.heap.size; omega)
  replace b_x1_1 := boxfarI ho b_x1_1 (by show w10.heap.size < w9.heap.size ∨ w10.heap.size ≤ w10.heap.size; omega)
  replace b_g0_0 := boxfarI ho b_g0_0 (by show w12.heap.size < w9.heap.size ∨ w10.heap.size ≤ w12.heap.size; omega)
  replace b_g0_1 := boxfarI ho b_g0_1 (by show w12.heap.size < w9.heap.size ∨ w10.heap.size ≤ w12.heap.size; omega)
  replace b_g0_2 := boxfarI ho b_g0_2 (by show w12.heap.size < w9.heap.size ∨ w10.heap.size ≤ w12.heap.size; omega)
  clear h_x1 ho
  have h_x1 := hm
  clear hm
  clear h_x0 h_x1
  clear b_x0_0
  clear b_x1_0
  clear b_x1_1
  go_wp2_with fail
  refine (laws_eqGrads loss gsat w20 h_g0.rl h_r0.rl (by omega) (by omega) hgn hgsm).mono ?_
  rintro e w21 ⟨rfl, hb⟩
  have hB_w21 : Below w.heap.size w w21 := below2 hB_w20 hb
  have hs_w21 : w20.heap.size ≤ w21.heap.size := hb.size
  replace h_r0 := h_r0.below hb
  replace h_g0 := h_g0.below hb
  replace b_p0_0 := cellB hb b_p0_0
  replace b_p1_0 := cellB hb b_p1_0
  replace b_p1_1 := cellB hb b_p1_1
  replace b_r0_0 := cellB hb b_r0_0
  replace b_r0_1 := cellB hb b_r0_1
  replace b_r0_2 := cellB hb b_r0_2
  replace b_g0_0 := cellB hb b_g0_0
  replace b_g0_1 := cellB hb b_g0_1
  replace b_g0_2 := cellB hb b_g0_2
  clear hb
  go_wp2_with fail
  refine (laws_markGrads loss gsat (1) w21 h_g0 hgn hgsm (by omega) (by omega)).mono ?_
  rintro e w22 ⟨rfl, hm, ho⟩
  have hB_w22 : Below w.heap.size w w22 := hB_w21.trans (ho.below hB_w21.size (fun q hq h3 => by have h4 : w11.heap.size ≤ q ∧ q < w12.heap.size := h3; omega))
  have hs_w22 : w21.heap.size ≤ w22.heap.size := ho.size
  replace h_r0 := h_r0.farI ho (by omega)
  replace b_p0_0 := boxfarI ho b_p0_0 (by show w.heap.size < w11.heap.size ∨ w12.heap.size ≤ w.heap.size; omega)
  replace b_p1_0 := boxfarI ho b_p1_0 (by show w.heap.size + 1 < w11.heap.size ∨ w12.heap.size ≤ w.heap.size + 1; omega)
  replace b_p1_1 := boxfarI ho b_p1_1 (by show w.heap.size + 1 < w11.heap.size ∨ w12.heap.size ≤ w.heap.size + 1; omega)
  replace b_r0_0 := boxfarI ho b_r0_0 (by show rb_r0 < w11.heap.size ∨ w12.heap.size ≤ rb_r0; omega)
  replace b_r0_1 := boxfarI ho b_r0_1 (by show rb_r0 < w11.heap.size ∨ w12.heap.size ≤ rb_r0; omega)
  replace b_r0_2 := boxfarI ho b_r0_2 (by show rb_r0 < w11.heap.size ∨ w12.heap.size ≤ rb_r0; omega)
  replace b_g0_0 := boxfarI ho b_g0_0 (by show w12.heap.size < w11.heap.size ∨ w12.heap.size ≤ w12.heap.size; omega)
  replace b_g0_1 := boxfarI ho b_g0_1 (by show w12.heap.size < w11.heap.size ∨ w12.heap.size ≤ w12.heap.size; omega)
  replace b_g0_2 := boxfarI ho b_g0_2 (by show w12.heap.size < w11.heap.size ∨ w12.heap.size ≤ w12.heap.size; omega)
  clear h_g0 ho
  have h_g0 := hm
  clear hm
  go_wp2_with fail
  refine (laws_heldGrads loss gsat (1) w22 h_g0 hgn hgsm (by omega) (by omega)).mono ?_
  rintro e w23 ⟨rfl, hb⟩
  have hB_w23 : Below w.heap.size w w23 := below2 hB_w22 hb
  have hs_w23 : w22.heap.size ≤ w23.heap.size := hb.size
  replace h_r0 := h_r0.below hb
  replace h_g0 := h_g0.below hb
  replace b_p0_0 := cellB hb b_p0_0
  replace b_p1_0 := cellB hb b_p1_0
  replace b_p1_1 := cellB hb b_p1_1
  replace b_r0_0 := cellB hb b_r0_0
  replace b_r0_1 := cellB hb b_r0_1
  replace b_r0_2 := cellB hb b_r0_2
  replace b_g0_0 := cellB hb b_g0_0
  replace b_g0_1 := cellB hb b_g0_1
  replace b_g0_2 := cellB hb b_g0_2
  clear hb
  go_upto_region 31 with fail
  go_cut [13] from 75 (fun v W => ∃ rb_h0 lo_h0 hi_h0 Aq cq, v = .pointer (some ⟨rb_h0, 0, none⟩) ∧ W.cell? ⟨rb_h0, 0, none⟩ = some (.slice Aq rows.length cq) ∧ W.cell? ⟨rb_h0, 1, none⟩ = some (.int .i64 loss) ∧ W.cell? ⟨rb_h0, 2, none⟩ = some (.bool gsat) ∧ W.cell? ⟨w.heap.size, 0, none⟩ = some (.slice A0 n0 c0) ∧ W.cell? ⟨w.heap.size + 1, 0, none⟩ = some (.slice A1 n1 c1) ∧ W.cell? ⟨w.heap.size + 1, 1, none⟩ = some (.slice C1 m1 d1) ∧ W.cell? ⟨rb_r0, 0, none⟩ = some (.slice A_r0 rows.length c_r0) ∧ W.cell? ⟨rb_r0, 1, none⟩ = some (.int .i64 loss) ∧ W.cell? ⟨rb_r0, 2, none⟩ = some (.bool gsat) ∧ W.cell? ⟨w12.heap.size, 0, none⟩ = some (.slice A_g0 rows.length c_g0) ∧ W.cell? ⟨w12.heap.size, 1, none⟩ = some (.int .i64 loss) ∧ W.cell? ⟨w12.heap.size, 2, none⟩ = some (.bool gsat) ∧ OwRows W (lo_r0) (hi_r0) (.slice A_r0 rows.length c_r0) rows.length (rows.flatMap rowF) ∧ OwRows W (w11.heap.size) (w12.heap.size) (.slice A_g0 rows.length c_g0) rows.length (mkF (1) (rows.flatMap rowF)) ∧ OwRows W (lo_h0) (hi_h0) (.slice Aq rows.length cq) rows.length (rows.flatMap rowF) ∧ Below w.heap.size w W ∧ w23.heap.size ≤ W.heap.size ∧ (w23.heap.size ≤ lo_h0 ∧ lo_h0 ≤ hi_h0 ∧ hi_h0 ≤ W.heap.size) ∧ (w23.heap.size ≤ rb_h0 ∧ rb_h0 < W.heap.size) ∧ (rb_h0 < lo_h0 ∨ hi_h0 ≤ rb_h0))
  case first =>
    have gate0 : True := trivial
    have gate1 : True := trivial
    have gate2 : True := trivial
    go_region_held3 (fun W => W.cell? ⟨w.heap.size, 0, none⟩ = some (.slice A0 n0 c0) ∧ W.cell? ⟨w.heap.size + 1, 0, none⟩ = some (.slice A1 n1 c1) ∧ W.cell? ⟨w.heap.size + 1, 1, none⟩ = some (.slice C1 m1 d1) ∧ W.cell? ⟨rb_r0, 0, none⟩ = some (.slice A_r0 rows.length c_r0) ∧ W.cell? ⟨rb_r0, 1, none⟩ = some (.int .i64 loss) ∧ W.cell? ⟨rb_r0, 2, none⟩ = some (.bool gsat) ∧ W.cell? ⟨w12.heap.size, 0, none⟩ = some (.slice A_g0 rows.length c_g0) ∧ W.cell? ⟨w12.heap.size, 1, none⟩ = some (.int .i64 loss) ∧ W.cell? ⟨w12.heap.size, 2, none⟩ = some (.bool gsat)) (first | exact ⟨b_p0_0, b_p1_0, b_p1_1, b_r0_0, b_r0_1, b_r0_2, b_g0_0, b_g0_1, b_g0_2⟩ | exact ⟨cellB ((Below.refl _ _).alloc (Nat.le_refl _) _) b_p0_0, cellB ((Below.refl _ _).alloc (Nat.le_refl _) _) b_p1_0, cellB ((Below.refl _ _).alloc (Nat.le_refl _) _) b_p1_1, cellB ((Below.refl _ _).alloc (Nat.le_refl _) _) b_r0_0, cellB ((Below.refl _ _).alloc (Nat.le_refl _) _) b_r0_1, cellB ((Below.refl _ _).alloc (Nat.le_refl _) _) b_r0_2, cellB ((Below.refl _ _).alloc (Nat.le_refl _) _) b_g0_0, cellB ((Below.refl _ _).alloc (Nat.le_refl _) _) b_g0_1, cellB ((Below.refl _ _).alloc (Nat.le_refl _) _) b_g0_2⟩ | exact ⟨cellB ((Below.refl _ _).alloc (Nat.le_refl _) _).drew b_p0_0, cellB ((Below.refl _ _).alloc (Nat.le_refl _) _).drew b_p1_0, cellB ((Below.refl _ _).alloc (Nat.le_refl _) _).drew b_p1_1, cellB ((Below.refl _ _).alloc (Nat.le_refl _) _).drew b_r0_0, cellB ((Below.refl _ _).alloc (Nat.le_refl _) _).drew b_r0_1, cellB ((Below.refl _ _).alloc (Nat.le_refl _) _).drew b_r0_2, cellB ((Below.refl _ _).alloc (Nat.le_refl _) _).drew b_g0_0, cellB ((Below.refl _ _).alloc (Nat.le_refl _) _).drew b_g0_1, cellB ((Below.refl _ _).alloc (Nat.le_refl _) _).drew b_g0_2⟩ | exact ⟨hkb_p0_0, hkb_p1_0, hkb_p1_1, hkb_r0_0, hkb_r0_1, hkb_r0_2, hkb_g0_0, hkb_g0_1, hkb_g0_2⟩) (first
      | (clear gate0; go_at_call 17; refine (laws_toModel w23.drew (hR0.below (hB_w23.drew)) (hB_w23.drew).size hx0 hsm0).mono ?_; rintro e w24 ⟨A_t0, c_t0, rfl, h_t0, hb⟩; have hb : Below w23.heap.size w23 w24 := undrew hb; have hh : OwOps w24 (w23.heap.size) (w24.heap.size) (.slice A_t0 n0 c_t0) n0 (ds0.flatMap opF) := h_t0; clear h_t0; have hB_w24 : Below w.heap.size w w24 := below2 hB_w23 hb; have hs_w24 : w23.heap.size ≤ w24.heap.size := hb.size; replace h_r0 := h_r0.below hb; replace h_g0 := h_g0.below hb; replace b_p0_0 := cellB hb b_p0_0; replace b_p1_0 := cellB hb b_p1_0; replace b_p1_1 := cellB hb b_p1_1; replace b_r0_0 := cellB hb b_r0_0; replace b_r0_1 := cellB hb b_r0_1; replace b_r0_2 := cellB hb b_r0_2; replace b_g0_0 := cellB hb b_g0_0; replace b_g0_1 := cellB hb b_g0_1; replace b_g0_2 := cellB hb b_g0_2; (try replace pZ := (hb.block bz (by omega)).trans pZ); clear hb; have h_t0 := hh; clear hh)
      | (clear gate0; go_at_call 17; obtain ⟨wz, hwz⟩ : ∃ W, W = w23.alloc (.cells #[.slice none 0 0, .int .i64 0, .bool false] 32) := ⟨_, rfl⟩; rw [← hwz]; obtain ⟨bz, hbz⟩ : ∃ b, b = w23.heap.size := ⟨_, rfl⟩; rw [← hbz]; have hb : Below w23.heap.size w23 wz := hwz ▸ (Below.refl _ _).alloc (Nat.le_refl _) _; have hzz : bz < wz.heap.size := (by rw [hwz, hbz]; simp); have pZ : wz.heap[bz]? = some (.cells #[.slice none 0 0, .int .i64 0, .bool false] 32 (0, 0)) := (by rw [hwz, hbz]; exact heap_alloc_new _ _); have hbS : w23.heap.size ≤ bz := (by omega); clear hwz hbz; have hB_wz : Below w.heap.size w wz := below2 hB_w23 hb; have hs_wz : w23.heap.size ≤ wz.heap.size := hb.size; replace h_r0 := h_r0.below hb; replace h_g0 := h_g0.below hb; replace b_p0_0 := cellB hb b_p0_0; replace b_p1_0 := cellB hb b_p1_0; replace b_p1_1 := cellB hb b_p1_1; replace b_r0_0 := cellB hb b_r0_0; replace b_r0_1 := cellB hb b_r0_1; replace b_r0_2 := cellB hb b_r0_2; replace b_g0_0 := cellB hb b_g0_0; replace b_g0_1 := cellB hb b_g0_1; replace b_g0_2 := cellB hb b_g0_2; clear hb; refine (laws_toModel wz.drew (hR0.below (hB_wz.drew)) (hB_wz.drew).size hx0 hsm0).mono ?_; rintro e w24 ⟨A_t0, c_t0, rfl, h_t0, hb⟩; have hb : Below wz.heap.size wz w24 := undrew hb; have hh : OwOps w24 (w23.heap.size) (w24.heap.size) (.slice A_t0 n0 c_t0) n0 (ds0.flatMap opF) := h_t0.more hs_wz (Nat.le_refl _); clear h_t0; have hB_w24 : Below w.heap.size w w24 := below2 hB_wz hb; have hs_w24 : wz.heap.size ≤ w24.heap.size := hb.size; replace h_r0 := h_r0.below hb; replace h_g0 := h_g0.below hb; replace b_p0_0 := cellB hb b_p0_0; replace b_p1_0 := cellB hb b_p1_0; replace b_p1_1 := cellB hb b_p1_1; replace b_r0_0 := cellB hb b_r0_0; replace b_r0_1 := cellB hb b_r0_1; replace b_r0_2 := cellB hb b_r0_2; replace b_g0_0 := cellB hb b_g0_0; replace b_g0_1 := cellB hb b_g0_1; replace b_g0_2 := cellB hb b_g0_2; (try replace pZ := (hb.block bz (by omega)).trans pZ); clear hb; have h_t0 := hh; clear hh)
      | (clear gate1; go_at_call 18; refine (laws_toPair w24 (hR1.below (hB_w24)) (hS1.below (hB_w24)) (hB_w24).size (hB_w24).size hx1 hsm1).mono ?_; rintro e w25 ⟨A_t1, n_t1, c_t1, C_t1, m_t1, d_t1, rfl, h_t1, hb⟩; have hh : OwPr w25 (w24.heap.size) (w25.heap.size) A_t1 n_t1 c_t1 C_t1 m_t1 d_t1 xs1 ys1 := h_t1; clear h_t1; have hB_w25 : Below w.heap.size w w25 := below2 hB_w24 hb; have hs_w25 : w24.heap.size ≤ w25.heap.size := hb.size; replace h_r0 := h_r0.below hb; replace h_g0 := h_g0.below hb; replace h_t0 := h_t0.below hb; replace b_p0_0 := cellB hb b_p0_0; replace b_p1_0 := cellB hb b_p1_0; replace b_p1_1 := cellB hb b_p1_1; replace b_r0_0 := cellB hb b_r0_0; replace b_r0_1 := cellB hb b_r0_1; replace b_r0_2 := cellB hb b_r0_2; replace b_g0_0 := cellB hb b_g0_0; replace b_g0_1 := cellB hb b_g0_1; replace b_g0_2 := cellB hb b_g0_2; (try replace pZ := (hb.block bz (by omega)).trans pZ); clear hb; have h_t1 := hh; clear hh)
      | (clear gate1; go_at_call 18; obtain ⟨wz, hwz⟩ : ∃ W, W = w24.alloc (.cells #[.slice none 0 0, .int .i64 0, .bool false] 32) := ⟨_, rfl⟩; rw [← hwz]; obtain ⟨bz, hbz⟩ : ∃ b, b = w24.heap.size := ⟨_, rfl⟩; rw [← hbz]; have hb : Below w24.heap.size w24 wz := hwz ▸ (Below.refl _ _).alloc (Nat.le_refl _) _; have hzz : bz < wz.heap.size := (by rw [hwz, hbz]; simp); have pZ : wz.heap[bz]? = some (.cells #[.slice none 0 0, .int .i64 0, .bool false] 32 (0, 0)) := (by rw [hwz, hbz]; exact heap_alloc_new _ _); have hbS : w23.heap.size ≤ bz := (by omega); clear hwz hbz; have hB_wz : Below w.heap.size w wz := below2 hB_w24 hb; have hs_wz : w24.heap.size ≤ wz.heap.size := hb.size; replace h_r0 := h_r0.below hb; replace h_g0 := h_g0.below hb; replace h_t0 := h_t0.below hb; replace b_p0_0 := cellB hb b_p0_0; replace b_p1_0 := cellB hb b_p1_0; replace b_p1_1 := cellB hb b_p1_1; replace b_r0_0 := cellB hb b_r0_0; replace b_r0_1 := cellB hb b_r0_1; replace b_r0_2 := cellB hb b_r0_2; replace b_g0_0 := cellB hb b_g0_0; replace b_g0_1 := cellB hb b_g0_1; replace b_g0_2 := cellB hb b_g0_2; clear hb; refine (laws_toPair wz (hR1.below (hB_wz)) (hS1.below (hB_wz)) (hB_wz).size (hB_wz).size hx1 hsm1).mono ?_; rintro e w25 ⟨A_t1, n_t1, c_t1, C_t1, m_t1, d_t1, rfl, h_t1, hb⟩; have hh : OwPr w25 (w24.heap.size) (w25.heap.size) A_t1 n_t1 c_t1 C_t1 m_t1 d_t1 xs1 ys1 := h_t1.more hs_wz (Nat.le_refl _); clear h_t1; have hB_w25 : Below w.heap.size w w25 := below2 hB_wz hb; have hs_w25 : wz.heap.size ≤ w25.heap.size := hb.size; replace h_r0 := h_r0.below hb; replace h_g0 := h_g0.below hb; replace h_t0 := h_t0.below hb; replace b_p0_0 := cellB hb b_p0_0; replace b_p1_0 := cellB hb b_p1_0; replace b_p1_1 := cellB hb b_p1_1; replace b_r0_0 := cellB hb b_r0_0; replace b_r0_1 := cellB hb b_r0_1; replace b_r0_2 := cellB hb b_r0_2; replace b_g0_0 := cellB hb b_g0_0; replace b_g0_1 := cellB hb b_g0_1; replace b_g0_2 := cellB hb b_g0_2; (try replace pZ := (hb.block bz (by omega)).trans pZ); clear hb; have h_t1 := hh; clear hh)
      | (clear gate2; go_at_call 19; have hzc := pZ; clear hzc; refine (flatG (impl_MicroGrads w25 h_t0.rl (by omega) hx0 hsm0 h_t1.ri1 (by omega) (by have := h_t1.ri1.1; omega) h_t1.ri2 (by omega) (by have := h_t1.ri2.1; omega)) HGZ.out).mono ?_; rintro e w26 ⟨A_h0, c_h0, rfl, h_h0, hb⟩; have hB7 : Below w.heap.size w w26 := below2 hB_w25 hb; have hs7 : w25.heap.size ≤ w26.heap.size := hb.size; have hhx : OwRows w26 (w25.heap.size) (w26.heap.size) (.slice A_h0 rows.length c_h0) rows.length (rows.flatMap rowF) := h_h0; have p7 := (hb.block bz (by omega)).trans pZ; have q7_0 := blk_cell p7 0; have q7_1 := blk_cell p7 1; have q7_2 := blk_cell p7 2; have f7_0 := blk_free p7 0; have f7_1 := blk_free p7 1; have f7_2 := blk_free p7 2; simp at q7_0 q7_1 q7_2; have p8 := (blk_set (blk_set (blk_set p7 0 (.slice A_h0 rows.length c_h0)) 1 (.int .i64 loss)) 2 (.bool gsat)); have on8 : Only (fun b => bz ≤ b ∧ b < bz + 1) w26 (((w26.setCell ⟨bz, 0, none⟩ (.slice A_h0 rows.length c_h0)).setCell ⟨bz, 1, none⟩ (.int .i64 loss)).setCell ⟨bz, 2, none⟩ (.bool gsat)) := ((((Only.refl (fun b => bz ≤ b ∧ b < bz + 1) w26).set bz 0 ⟨Nat.le_refl _, Nat.lt_succ_self _⟩ (.slice A_h0 rows.length c_h0)).set bz 1 ⟨Nat.le_refl _, Nat.lt_succ_self _⟩ (.int .i64 loss)).set bz 2 ⟨Nat.le_refl _, Nat.lt_succ_self _⟩ (.bool gsat)); have s8 : (((w26.setCell ⟨bz, 0, none⟩ (.slice A_h0 rows.length c_h0)).setCell ⟨bz, 1, none⟩ (.int .i64 loss)).setCell ⟨bz, 2, none⟩ (.bool gsat)).heap.size = w26.heap.size := (by simp [World.setCell]); have r8_0 := blk_cell p8 0; have r8_1 := blk_cell p8 1; have r8_2 := blk_cell p8 2; simp at r8_0 r8_1 r8_2; have hn_r0 := (h_r0.below hb).farI on8 (by omega); have hn_g0 := (h_g0.below hb).farI on8 (by omega); have hn_h0 := hhx.farI on8 (by omega); have hnb_p0_0 := boxfarI on8 (cellB hb b_p0_0) (by show w.heap.size < bz ∨ bz + 1 ≤ w.heap.size; omega); have hnb_p1_0 := boxfarI on8 (cellB hb b_p1_0) (by show w.heap.size + 1 < bz ∨ bz + 1 ≤ w.heap.size + 1; omega); have hnb_p1_1 := boxfarI on8 (cellB hb b_p1_1) (by show w.heap.size + 1 < bz ∨ bz + 1 ≤ w.heap.size + 1; omega); have hnb_r0_0 := boxfarI on8 (cellB hb b_r0_0) (by show rb_r0 < bz ∨ bz + 1 ≤ rb_r0; omega); have hnb_r0_1 := boxfarI on8 (cellB hb b_r0_1) (by show rb_r0 < bz ∨ bz + 1 ≤ rb_r0; omega); have hnb_r0_2 := boxfarI on8 (cellB hb b_r0_2) (by show rb_r0 < bz ∨ bz + 1 ≤ rb_r0; omega); have hnb_g0_0 := boxfarI on8 (cellB hb b_g0_0) (by show w12.heap.size < bz ∨ bz + 1 ≤ w12.heap.size; omega); have hnb_g0_1 := boxfarI on8 (cellB hb b_g0_1) (by show w12.heap.size < bz ∨ bz + 1 ≤ w12.heap.size; omega); have hnb_g0_2 := boxfarI on8 (cellB hb b_g0_2) (by show w12.heap.size < bz ∨ bz + 1 ≤ w12.heap.size; omega); have hR : ∃ rb_h0 lo_h0 hi_h0 Aq cq, Value.pointer (some ⟨bz, 0, none⟩) = .pointer (some ⟨rb_h0, 0, none⟩) ∧ (((w26.setCell ⟨bz, 0, none⟩ (.slice A_h0 rows.length c_h0)).setCell ⟨bz, 1, none⟩ (.int .i64 loss)).setCell ⟨bz, 2, none⟩ (.bool gsat)).cell? ⟨rb_h0, 0, none⟩ = some (.slice Aq rows.length cq) ∧ (((w26.setCell ⟨bz, 0, none⟩ (.slice A_h0 rows.length c_h0)).setCell ⟨bz, 1, none⟩ (.int .i64 loss)).setCell ⟨bz, 2, none⟩ (.bool gsat)).cell? ⟨rb_h0, 1, none⟩ = some (.int .i64 loss) ∧ (((w26.setCell ⟨bz, 0, none⟩ (.slice A_h0 rows.length c_h0)).setCell ⟨bz, 1, none⟩ (.int .i64 loss)).setCell ⟨bz, 2, none⟩ (.bool gsat)).cell? ⟨rb_h0, 2, none⟩ = some (.bool gsat) ∧ (((w26.setCell ⟨bz, 0, none⟩ (.slice A_h0 rows.length c_h0)).setCell ⟨bz, 1, none⟩ (.int .i64 loss)).setCell ⟨bz, 2, none⟩ (.bool gsat)).cell? ⟨w.heap.size, 0, none⟩ = some (.slice A0 n0 c0) ∧ (((w26.setCell ⟨bz, 0, none⟩ (.slice A_h0 rows.length c_h0)).setCell ⟨bz, 1, none⟩ (.int .i64 loss)).setCell ⟨bz, 2, none⟩ (.bool gsat)).cell? ⟨w.heap.size + 1, 0, none⟩ = some (.slice A1 n1 c1) ∧ (((w26.setCell ⟨bz, 0, none⟩ (.slice A_h0 rows.length c_h0)).setCell ⟨bz, 1, none⟩ (.int .i64 loss)).setCell ⟨bz, 2, none⟩ (.bool gsat)).cell? ⟨w.heap.size + 1, 1, none⟩ = some (.slice C1 m1 d1) ∧ (((w26.setCell ⟨bz, 0, none⟩ (.slice A_h0 rows.length c_h0)).setCell ⟨bz, 1, none⟩ (.int .i64 loss)).setCell ⟨bz, 2, none⟩ (.bool gsat)).cell? ⟨rb_r0, 0, none⟩ = some (.slice A_r0 rows.length c_r0) ∧ (((w26.setCell ⟨bz, 0, none⟩ (.slice A_h0 rows.length c_h0)).setCell ⟨bz, 1, none⟩ (.int .i64 loss)).setCell ⟨bz, 2, none⟩ (.bool gsat)).cell? ⟨rb_r0, 1, none⟩ = some (.int .i64 loss) ∧ (((w26.setCell ⟨bz, 0, none⟩ (.slice A_h0 rows.length c_h0)).setCell ⟨bz, 1, none⟩ (.int .i64 loss)).setCell ⟨bz, 2, none⟩ (.bool gsat)).cell? ⟨rb_r0, 2, none⟩ = some (.bool gsat) ∧ (((w26.setCell ⟨bz, 0, none⟩ (.slice A_h0 rows.length c_h0)).setCell ⟨bz, 1, none⟩ (.int .i64 loss)).setCell ⟨bz, 2, none⟩ (.bool gsat)).cell? ⟨w12.heap.size, 0, none⟩ = some (.slice A_g0 rows.length c_g0) ∧ (((w26.setCell ⟨bz, 0, none⟩ (.slice A_h0 rows.length c_h0)).setCell ⟨bz, 1, none⟩ (.int .i64 loss)).setCell ⟨bz, 2, none⟩ (.bool gsat)).cell? ⟨w12.heap.size, 1, none⟩ = some (.int .i64 loss) ∧ (((w26.setCell ⟨bz, 0, none⟩ (.slice A_h0 rows.length c_h0)).setCell ⟨bz, 1, none⟩ (.int .i64 loss)).setCell ⟨bz, 2, none⟩ (.bool gsat)).cell? ⟨w12.heap.size, 2, none⟩ = some (.bool gsat) ∧ OwRows (((w26.setCell ⟨bz, 0, none⟩ (.slice A_h0 rows.length c_h0)).setCell ⟨bz, 1, none⟩ (.int .i64 loss)).setCell ⟨bz, 2, none⟩ (.bool gsat)) (lo_r0) (hi_r0) (.slice A_r0 rows.length c_r0) rows.length (rows.flatMap rowF) ∧ OwRows (((w26.setCell ⟨bz, 0, none⟩ (.slice A_h0 rows.length c_h0)).setCell ⟨bz, 1, none⟩ (.int .i64 loss)).setCell ⟨bz, 2, none⟩ (.bool gsat)) (w11.heap.size) (w12.heap.size) (.slice A_g0 rows.length c_g0) rows.length (mkF (1) (rows.flatMap rowF)) ∧ OwRows (((w26.setCell ⟨bz, 0, none⟩ (.slice A_h0 rows.length c_h0)).setCell ⟨bz, 1, none⟩ (.int .i64 loss)).setCell ⟨bz, 2, none⟩ (.bool gsat)) (lo_h0) (hi_h0) (.slice Aq rows.length cq) rows.length (rows.flatMap rowF) ∧ Below w.heap.size w (((w26.setCell ⟨bz, 0, none⟩ (.slice A_h0 rows.length c_h0)).setCell ⟨bz, 1, none⟩ (.int .i64 loss)).setCell ⟨bz, 2, none⟩ (.bool gsat)) ∧ w23.heap.size ≤ (((w26.setCell ⟨bz, 0, none⟩ (.slice A_h0 rows.length c_h0)).setCell ⟨bz, 1, none⟩ (.int .i64 loss)).setCell ⟨bz, 2, none⟩ (.bool gsat)).heap.size ∧ (w23.heap.size ≤ lo_h0 ∧ lo_h0 ≤ hi_h0 ∧ hi_h0 ≤ (((w26.setCell ⟨bz, 0, none⟩ (.slice A_h0 rows.length c_h0)).setCell ⟨bz, 1, none⟩ (.int .i64 loss)).setCell ⟨bz, 2, none⟩ (.bool gsat)).heap.size) ∧ (w23.heap.size ≤ rb_h0 ∧ rb_h0 < (((w26.setCell ⟨bz, 0, none⟩ (.slice A_h0 rows.length c_h0)).setCell ⟨bz, 1, none⟩ (.int .i64 loss)).setCell ⟨bz, 2, none⟩ (.bool gsat)).heap.size) ∧ (rb_h0 < lo_h0 ∨ hi_h0 ≤ rb_h0) := ⟨bz, w25.heap.size, w26.heap.size, _, _, rfl, r8_0, r8_1, r8_2, hnb_p0_0, hnb_p1_0, hnb_p1_1, hnb_r0_0, hnb_r0_1, hnb_r0_2, hnb_g0_0, hnb_g0_1, hnb_g0_2, hn_r0, hn_g0, hn_h0, hB7.trans (on8.below (by omega) (fun q hq h3 => by have h4 : bz ≤ q ∧ q < bz + 1 := h3; omega)), by omega, ⟨by omega, by omega, by omega⟩, ⟨by omega, by omega⟩, by omega⟩; have hkb_p0_0 := hnb_p0_0; have hkb_p1_0 := hnb_p1_0; have hkb_p1_1 := hnb_p1_1; have hkb_r0_0 := hnb_r0_0; have hkb_r0_1 := hnb_r0_1; have hkb_r0_2 := hnb_r0_2; have hkb_g0_0 := hnb_g0_0; have hkb_g0_1 := hnb_g0_1; have hkb_g0_2 := hnb_g0_2; have HR := hide hR; clear s8 hR p7 pZ p8 on8 hn_r0 hn_g0 hn_h0 hnb_p0_0 hnb_p1_0 hnb_p1_1 hnb_r0_0 hnb_r0_1 hnb_r0_2 hnb_g0_0 hnb_g0_1 hnb_g0_2 r8_0 r8_1 r8_2; replace b_p0_0 := cellB hb b_p0_0; replace b_p1_0 := cellB hb b_p1_0; replace b_p1_1 := cellB hb b_p1_1; replace b_r0_0 := cellB hb b_r0_0; replace b_r0_1 := cellB hb b_r0_1; replace b_r0_2 := cellB hb b_r0_2; replace b_g0_0 := cellB hb b_g0_0; replace b_g0_1 := cellB hb b_g0_1; replace b_g0_2 := cellB hb b_g0_2; clear hhx h_h0 hb h_r0 h_g0 h_t0 h_t1)
      | (clear gate2; go_at_call 19; refine (flatG (impl_MicroGrads w25 h_t0.rl (by omega) hx0 hsm0 h_t1.ri1 (by omega) (by have := h_t1.ri1.1; omega) h_t1.ri2 (by omega) (by have := h_t1.ri2.1; omega)) HGZ.out).mono ?_; rintro e w26 ⟨A_h0, c_h0, rfl, h_h0, hb⟩; have hB7 : Below w.heap.size w w26 := below2 hB_w25 hb; have hs7 : w25.heap.size ≤ w26.heap.size := hb.size; have hhx : OwRows w26 (w25.heap.size) (w26.heap.size) (.slice A_h0 rows.length c_h0) rows.length (rows.flatMap rowF) := h_h0; have hZ : Below w26.heap.size w26 (w26.alloc (.cells #[.slice A_h0 rows.length c_h0, .int .i64 loss, .bool gsat] 32)) := (Below.refl _ _).alloc (Nat.le_refl _) _; have sZ : (w26.alloc (.cells #[.slice A_h0 rows.length c_h0, .int .i64 loss, .bool gsat] 32)).heap.size = w26.heap.size + 1 := (by simp); have hn_r0 := (h_r0.below hb).below hZ; have hn_g0 := (h_g0.below hb).below hZ; have hn_h0 := hhx.below hZ; have hnb_p0_0 := cellB hZ (cellB hb b_p0_0); have hnb_p1_0 := cellB hZ (cellB hb b_p1_0); have hnb_p1_1 := cellB hZ (cellB hb b_p1_1); have hnb_r0_0 := cellB hZ (cellB hb b_r0_0); have hnb_r0_1 := cellB hZ (cellB hb b_r0_1); have hnb_r0_2 := cellB hZ (cellB hb b_r0_2); have hnb_g0_0 := cellB hZ (cellB hb b_g0_0); have hnb_g0_1 := cellB hZ (cellB hb b_g0_1); have hnb_g0_2 := cellB hZ (cellB hb b_g0_2); have hR : ∃ rb_h0 lo_h0 hi_h0 Aq cq, Value.pointer (some ⟨w26.heap.size, 0, none⟩) = .pointer (some ⟨rb_h0, 0, none⟩) ∧ (w26.alloc (.cells #[.slice A_h0 rows.length c_h0, .int .i64 loss, .bool gsat] 32)).cell? ⟨rb_h0, 0, none⟩ = some (.slice Aq rows.length cq) ∧ (w26.alloc (.cells #[.slice A_h0 rows.length c_h0, .int .i64 loss, .bool gsat] 32)).cell? ⟨rb_h0, 1, none⟩ = some (.int .i64 loss) ∧ (w26.alloc (.cells #[.slice A_h0 rows.length c_h0, .int .i64 loss, .bool gsat] 32)).cell? ⟨rb_h0, 2, none⟩ = some (.bool gsat) ∧ (w26.alloc (.cells #[.slice A_h0 rows.length c_h0, .int .i64 loss, .bool gsat] 32)).cell? ⟨w.heap.size, 0, none⟩ = some (.slice A0 n0 c0) ∧ (w26.alloc (.cells #[.slice A_h0 rows.length c_h0, .int .i64 loss, .bool gsat] 32)).cell? ⟨w.heap.size + 1, 0, none⟩ = some (.slice A1 n1 c1) ∧ (w26.alloc (.cells #[.slice A_h0 rows.length c_h0, .int .i64 loss, .bool gsat] 32)).cell? ⟨w.heap.size + 1, 1, none⟩ = some (.slice C1 m1 d1) ∧ (w26.alloc (.cells #[.slice A_h0 rows.length c_h0, .int .i64 loss, .bool gsat] 32)).cell? ⟨rb_r0, 0, none⟩ = some (.slice A_r0 rows.length c_r0) ∧ (w26.alloc (.cells #[.slice A_h0 rows.length c_h0, .int .i64 loss, .bool gsat] 32)).cell? ⟨rb_r0, 1, none⟩ = some (.int .i64 loss) ∧ (w26.alloc (.cells #[.slice A_h0 rows.length c_h0, .int .i64 loss, .bool gsat] 32)).cell? ⟨rb_r0, 2, none⟩ = some (.bool gsat) ∧ (w26.alloc (.cells #[.slice A_h0 rows.length c_h0, .int .i64 loss, .bool gsat] 32)).cell? ⟨w12.heap.size, 0, none⟩ = some (.slice A_g0 rows.length c_g0) ∧ (w26.alloc (.cells #[.slice A_h0 rows.length c_h0, .int .i64 loss, .bool gsat] 32)).cell? ⟨w12.heap.size, 1, none⟩ = some (.int .i64 loss) ∧ (w26.alloc (.cells #[.slice A_h0 rows.length c_h0, .int .i64 loss, .bool gsat] 32)).cell? ⟨w12.heap.size, 2, none⟩ = some (.bool gsat) ∧ OwRows (w26.alloc (.cells #[.slice A_h0 rows.length c_h0, .int .i64 loss, .bool gsat] 32)) (lo_r0) (hi_r0) (.slice A_r0 rows.length c_r0) rows.length (rows.flatMap rowF) ∧ OwRows (w26.alloc (.cells #[.slice A_h0 rows.length c_h0, .int .i64 loss, .bool gsat] 32)) (w11.heap.size) (w12.heap.size) (.slice A_g0 rows.length c_g0) rows.length (mkF (1) (rows.flatMap rowF)) ∧ OwRows (w26.alloc (.cells #[.slice A_h0 rows.length c_h0, .int .i64 loss, .bool gsat] 32)) (lo_h0) (hi_h0) (.slice Aq rows.length cq) rows.length (rows.flatMap rowF) ∧ Below w.heap.size w (w26.alloc (.cells #[.slice A_h0 rows.length c_h0, .int .i64 loss, .bool gsat] 32)) ∧ w23.heap.size ≤ (w26.alloc (.cells #[.slice A_h0 rows.length c_h0, .int .i64 loss, .bool gsat] 32)).heap.size ∧ (w23.heap.size ≤ lo_h0 ∧ lo_h0 ≤ hi_h0 ∧ hi_h0 ≤ (w26.alloc (.cells #[.slice A_h0 rows.length c_h0, .int .i64 loss, .bool gsat] 32)).heap.size) ∧ (w23.heap.size ≤ rb_h0 ∧ rb_h0 < (w26.alloc (.cells #[.slice A_h0 rows.length c_h0, .int .i64 loss, .bool gsat] 32)).heap.size) ∧ (rb_h0 < lo_h0 ∨ hi_h0 ≤ rb_h0) := ⟨w26.heap.size, w25.heap.size, w26.heap.size, _, _, rfl, by simp, by simp, by simp, hnb_p0_0, hnb_p1_0, hnb_p1_1, hnb_r0_0, hnb_r0_1, hnb_r0_2, hnb_g0_0, hnb_g0_1, hnb_g0_2, hn_r0, hn_g0, hn_h0, below2 hB7 hZ, by omega, ⟨by omega, by omega, by omega⟩, ⟨by omega, by omega⟩, by omega⟩; have HR := hide hR; clear sZ hR hZ hn_r0 hn_g0 hn_h0 hnb_p0_0 hnb_p1_0 hnb_p1_1 hnb_r0_0 hnb_r0_1 hnb_r0_2 hnb_g0_0 hnb_g0_1 hnb_g0_2; replace b_p0_0 := cellB hb b_p0_0; replace b_p1_0 := cellB hb b_p1_0; replace b_p1_1 := cellB hb b_p1_1; replace b_r0_0 := cellB hb b_r0_0; replace b_r0_1 := cellB hb b_r0_1; replace b_r0_2 := cellB hb b_r0_2; replace b_g0_0 := cellB hb b_g0_0; replace b_g0_1 := cellB hb b_g0_1; replace b_g0_2 := cellB hb b_g0_2; clear hhx h_h0 hb h_r0 h_g0 h_t0 h_t1)
      | (clear gate2; go_at_call 19; obtain ⟨wz, hwz⟩ : ∃ W, W = w25.alloc (.cells #[.slice none 0 0, .int .i64 0, .bool false] 32) := ⟨_, rfl⟩; rw [← hwz]; obtain ⟨bz, hbz⟩ : ∃ b, b = w25.heap.size := ⟨_, rfl⟩; rw [← hbz]; have hb : Below w25.heap.size w25 wz := hwz ▸ (Below.refl _ _).alloc (Nat.le_refl _) _; have hzz : bz < wz.heap.size := (by rw [hwz, hbz]; simp); have pZ : wz.heap[bz]? = some (.cells #[.slice none 0 0, .int .i64 0, .bool false] 32 (0, 0)) := (by rw [hwz, hbz]; exact heap_alloc_new _ _); have hbS : w23.heap.size ≤ bz := (by omega); clear hwz hbz; have hB_wz : Below w.heap.size w wz := below2 hB_w25 hb; have hs_wz : w25.heap.size ≤ wz.heap.size := hb.size; replace h_r0 := h_r0.below hb; replace h_g0 := h_g0.below hb; replace h_t0 := h_t0.below hb; replace h_t1 := h_t1.below hb; replace b_p0_0 := cellB hb b_p0_0; replace b_p1_0 := cellB hb b_p1_0; replace b_p1_1 := cellB hb b_p1_1; replace b_r0_0 := cellB hb b_r0_0; replace b_r0_1 := cellB hb b_r0_1; replace b_r0_2 := cellB hb b_r0_2; replace b_g0_0 := cellB hb b_g0_0; replace b_g0_1 := cellB hb b_g0_1; replace b_g0_2 := cellB hb b_g0_2; clear hb; refine (flatG (impl_MicroGrads wz h_t0.rl (by omega) hx0 hsm0 h_t1.ri1 (by omega) (by have := h_t1.ri1.1; omega) h_t1.ri2 (by omega) (by have := h_t1.ri2.1; omega)) HGZ.out).mono ?_; rintro e w26 ⟨A_h0, c_h0, rfl, h_h0, hb⟩; have hB7 : Below w.heap.size w w26 := below2 hB_wz hb; have hs7 : wz.heap.size ≤ w26.heap.size := hb.size; have hhx : OwRows w26 (wz.heap.size) (w26.heap.size) (.slice A_h0 rows.length c_h0) rows.length (rows.flatMap rowF) := h_h0; have p7 := (hb.block bz (by omega)).trans pZ; have q7_0 := blk_cell p7 0; have q7_1 := blk_cell p7 1; have q7_2 := blk_cell p7 2; have f7_0 := blk_free p7 0; have f7_1 := blk_free p7 1; have f7_2 := blk_free p7 2; simp at q7_0 q7_1 q7_2; have p8 := (blk_set (blk_set (blk_set p7 0 (.slice A_h0 rows.length c_h0)) 1 (.int .i64 loss)) 2 (.bool gsat)); have on8 : Only (fun b => bz ≤ b ∧ b < bz + 1) w26 (((w26.setCell ⟨bz, 0, none⟩ (.slice A_h0 rows.length c_h0)).setCell ⟨bz, 1, none⟩ (.int .i64 loss)).setCell ⟨bz, 2, none⟩ (.bool gsat)) := ((((Only.refl (fun b => bz ≤ b ∧ b < bz + 1) w26).set bz 0 ⟨Nat.le_refl _, Nat.lt_succ_self _⟩ (.slice A_h0 rows.length c_h0)).set bz 1 ⟨Nat.le_refl _, Nat.lt_succ_self _⟩ (.int .i64 loss)).set bz 2 ⟨Nat.le_refl _, Nat.lt_succ_self _⟩ (.bool gsat)); have s8 : (((w26.setCell ⟨bz, 0, none⟩ (.slice A_h0 rows.length c_h0)).setCell ⟨bz, 1, none⟩ (.int .i64 loss)).setCell ⟨bz, 2, none⟩ (.bool gsat)).heap.size = w26.heap.size := (by simp [World.setCell]); have r8_0 := blk_cell p8 0; have r8_1 := blk_cell p8 1; have r8_2 := blk_cell p8 2; simp at r8_0 r8_1 r8_2; have hn_r0 := (h_r0.below hb).farI on8 (by omega); have hn_g0 := (h_g0.below hb).farI on8 (by omega); have hn_h0 := hhx.farI on8 (by omega); have hnb_p0_0 := boxfarI on8 (cellB hb b_p0_0) (by show w.heap.size < bz ∨ bz + 1 ≤ w.heap.size; omega); have hnb_p1_0 := boxfarI on8 (cellB hb b_p1_0) (by show w.heap.size + 1 < bz ∨ bz + 1 ≤ w.heap.size + 1; omega); have hnb_p1_1 := boxfarI on8 (cellB hb b_p1_1) (by show w.heap.size + 1 < bz ∨ bz + 1 ≤ w.heap.size + 1; omega); have hnb_r0_0 := boxfarI on8 (cellB hb b_r0_0) (by show rb_r0 < bz ∨ bz + 1 ≤ rb_r0; omega); have hnb_r0_1 := boxfarI on8 (cellB hb b_r0_1) (by show rb_r0 < bz ∨ bz + 1 ≤ rb_r0; omega); have hnb_r0_2 := boxfarI on8 (cellB hb b_r0_2) (by show rb_r0 < bz ∨ bz + 1 ≤ rb_r0; omega); have hnb_g0_0 := boxfarI on8 (cellB hb b_g0_0) (by show w12.heap.size < bz ∨ bz + 1 ≤ w12.heap.size; omega); have hnb_g0_1 := boxfarI on8 (cellB hb b_g0_1) (by show w12.heap.size < bz ∨ bz + 1 ≤ w12.heap.size; omega); have hnb_g0_2 := boxfarI on8 (cellB hb b_g0_2) (by show w12.heap.size < bz ∨ bz + 1 ≤ w12.heap.size; omega); have hR : ∃ rb_h0 lo_h0 hi_h0 Aq cq, Value.pointer (some ⟨bz, 0, none⟩) = .pointer (some ⟨rb_h0, 0, none⟩) ∧ (((w26.setCell ⟨bz, 0, none⟩ (.slice A_h0 rows.length c_h0)).setCell ⟨bz, 1, none⟩ (.int .i64 loss)).setCell ⟨bz, 2, none⟩ (.bool gsat)).cell? ⟨rb_h0, 0, none⟩ = some (.slice Aq rows.length cq) ∧ (((w26.setCell ⟨bz, 0, none⟩ (.slice A_h0 rows.length c_h0)).setCell ⟨bz, 1, none⟩ (.int .i64 loss)).setCell ⟨bz, 2, none⟩ (.bool gsat)).cell? ⟨rb_h0, 1, none⟩ = some (.int .i64 loss) ∧ (((w26.setCell ⟨bz, 0, none⟩ (.slice A_h0 rows.length c_h0)).setCell ⟨bz, 1, none⟩ (.int .i64 loss)).setCell ⟨bz, 2, none⟩ (.bool gsat)).cell? ⟨rb_h0, 2, none⟩ = some (.bool gsat) ∧ (((w26.setCell ⟨bz, 0, none⟩ (.slice A_h0 rows.length c_h0)).setCell ⟨bz, 1, none⟩ (.int .i64 loss)).setCell ⟨bz, 2, none⟩ (.bool gsat)).cell? ⟨w.heap.size, 0, none⟩ = some (.slice A0 n0 c0) ∧ (((w26.setCell ⟨bz, 0, none⟩ (.slice A_h0 rows.length c_h0)).setCell ⟨bz, 1, none⟩ (.int .i64 loss)).setCell ⟨bz, 2, none⟩ (.bool gsat)).cell? ⟨w.heap.size + 1, 0, none⟩ = some (.slice A1 n1 c1) ∧ (((w26.setCell ⟨bz, 0, none⟩ (.slice A_h0 rows.length c_h0)).setCell ⟨bz, 1, none⟩ (.int .i64 loss)).setCell ⟨bz, 2, none⟩ (.bool gsat)).cell? ⟨w.heap.size + 1, 1, none⟩ = some (.slice C1 m1 d1) ∧ (((w26.setCell ⟨bz, 0, none⟩ (.slice A_h0 rows.length c_h0)).setCell ⟨bz, 1, none⟩ (.int .i64 loss)).setCell ⟨bz, 2, none⟩ (.bool gsat)).cell? ⟨rb_r0, 0, none⟩ = some (.slice A_r0 rows.length c_r0) ∧ (((w26.setCell ⟨bz, 0, none⟩ (.slice A_h0 rows.length c_h0)).setCell ⟨bz, 1, none⟩ (.int .i64 loss)).setCell ⟨bz, 2, none⟩ (.bool gsat)).cell? ⟨rb_r0, 1, none⟩ = some (.int .i64 loss) ∧ (((w26.setCell ⟨bz, 0, none⟩ (.slice A_h0 rows.length c_h0)).setCell ⟨bz, 1, none⟩ (.int .i64 loss)).setCell ⟨bz, 2, none⟩ (.bool gsat)).cell? ⟨rb_r0, 2, none⟩ = some (.bool gsat) ∧ (((w26.setCell ⟨bz, 0, none⟩ (.slice A_h0 rows.length c_h0)).setCell ⟨bz, 1, none⟩ (.int .i64 loss)).setCell ⟨bz, 2, none⟩ (.bool gsat)).cell? ⟨w12.heap.size, 0, none⟩ = some (.slice A_g0 rows.length c_g0) ∧ (((w26.setCell ⟨bz, 0, none⟩ (.slice A_h0 rows.length c_h0)).setCell ⟨bz, 1, none⟩ (.int .i64 loss)).setCell ⟨bz, 2, none⟩ (.bool gsat)).cell? ⟨w12.heap.size, 1, none⟩ = some (.int .i64 loss) ∧ (((w26.setCell ⟨bz, 0, none⟩ (.slice A_h0 rows.length c_h0)).setCell ⟨bz, 1, none⟩ (.int .i64 loss)).setCell ⟨bz, 2, none⟩ (.bool gsat)).cell? ⟨w12.heap.size, 2, none⟩ = some (.bool gsat) ∧ OwRows (((w26.setCell ⟨bz, 0, none⟩ (.slice A_h0 rows.length c_h0)).setCell ⟨bz, 1, none⟩ (.int .i64 loss)).setCell ⟨bz, 2, none⟩ (.bool gsat)) (lo_r0) (hi_r0) (.slice A_r0 rows.length c_r0) rows.length (rows.flatMap rowF) ∧ OwRows (((w26.setCell ⟨bz, 0, none⟩ (.slice A_h0 rows.length c_h0)).setCell ⟨bz, 1, none⟩ (.int .i64 loss)).setCell ⟨bz, 2, none⟩ (.bool gsat)) (w11.heap.size) (w12.heap.size) (.slice A_g0 rows.length c_g0) rows.length (mkF (1) (rows.flatMap rowF)) ∧ OwRows (((w26.setCell ⟨bz, 0, none⟩ (.slice A_h0 rows.length c_h0)).setCell ⟨bz, 1, none⟩ (.int .i64 loss)).setCell ⟨bz, 2, none⟩ (.bool gsat)) (lo_h0) (hi_h0) (.slice Aq rows.length cq) rows.length (rows.flatMap rowF) ∧ Below w.heap.size w (((w26.setCell ⟨bz, 0, none⟩ (.slice A_h0 rows.length c_h0)).setCell ⟨bz, 1, none⟩ (.int .i64 loss)).setCell ⟨bz, 2, none⟩ (.bool gsat)) ∧ w23.heap.size ≤ (((w26.setCell ⟨bz, 0, none⟩ (.slice A_h0 rows.length c_h0)).setCell ⟨bz, 1, none⟩ (.int .i64 loss)).setCell ⟨bz, 2, none⟩ (.bool gsat)).heap.size ∧ (w23.heap.size ≤ lo_h0 ∧ lo_h0 ≤ hi_h0 ∧ hi_h0 ≤ (((w26.setCell ⟨bz, 0, none⟩ (.slice A_h0 rows.length c_h0)).setCell ⟨bz, 1, none⟩ (.int .i64 loss)).setCell ⟨bz, 2, none⟩ (.bool gsat)).heap.size) ∧ (w23.heap.size ≤ rb_h0 ∧ rb_h0 < (((w26.setCell ⟨bz, 0, none⟩ (.slice A_h0 rows.length c_h0)).setCell ⟨bz, 1, none⟩ (.int .i64 loss)).setCell ⟨bz, 2, none⟩ (.bool gsat)).heap.size) ∧ (rb_h0 < lo_h0 ∨ hi_h0 ≤ rb_h0) := ⟨bz, wz.heap.size, w26.heap.size, _, _, rfl, r8_0, r8_1, r8_2, hnb_p0_0, hnb_p1_0, hnb_p1_1, hnb_r0_0, hnb_r0_1, hnb_r0_2, hnb_g0_0, hnb_g0_1, hnb_g0_2, hn_r0, hn_g0, hn_h0, hB7.trans (on8.below (by omega) (fun q hq h3 => by have h4 : bz ≤ q ∧ q < bz + 1 := h3; omega)), by omega, ⟨by omega, by omega, by omega⟩, ⟨by omega, by omega⟩, by omega⟩; have hkb_p0_0 := hnb_p0_0; have hkb_p1_0 := hnb_p1_0; have hkb_p1_1 := hnb_p1_1; have hkb_r0_0 := hnb_r0_0; have hkb_r0_1 := hnb_r0_1; have hkb_r0_2 := hnb_r0_2; have hkb_g0_0 := hnb_g0_0; have hkb_g0_1 := hnb_g0_1; have hkb_g0_2 := hnb_g0_2; have HR := hide hR; clear s8 hR p7 pZ p8 on8 hn_r0 hn_g0 hn_h0 hnb_p0_0 hnb_p1_0 hnb_p1_1 hnb_r0_0 hnb_r0_1 hnb_r0_2 hnb_g0_0 hnb_g0_1 hnb_g0_2 r8_0 r8_1 r8_2; replace b_p0_0 := cellB hb b_p0_0; replace b_p1_0 := cellB hb b_p1_0; replace b_p1_1 := cellB hb b_p1_1; replace b_r0_0 := cellB hb b_r0_0; replace b_r0_1 := cellB hb b_r0_1; replace b_r0_2 := cellB hb b_r0_2; replace b_g0_0 := cellB hb b_g0_0; replace b_g0_1 := cellB hb b_g0_1; replace b_g0_2 := cellB hb b_g0_2; clear hhx h_h0 hb h_r0 h_g0 h_t0 h_t1))
    all_goals
      go_wp2_with fail
      go_meet
      case rel => exact HR.out
  clear h_r0 h_g0 b_p0_0 b_p1_0 b_p1_1 b_r0_0 b_r0_1 b_r0_2 b_g0_0 b_g0_1 b_g0_2
  rename World => w26
  obtain ⟨rb_h0, lo_h0, hi_h0, A_h0, c_h0, rfl, c_0, c_1, c_2, b_p0_0, b_p1_0, b_p1_1, b_r0_0, b_r0_1, b_r0_2, b_g0_0, b_g0_1, b_g0_2, h_r0, h_g0, h_h0, hB_w26, hs_w26, ⟨hlo_h0, hlh_h0, hhi_h0⟩, ⟨hrb_h0, hrc_h0⟩, hrd_h0⟩ := hcut
  have b_h0_0 := c_0
  clear c_0
  have b_h0_1 := c_1
  clear c_1
  have b_h0_2 := c_2
  clear c_2
  go_wp2_with fail
  refine (laws_eqGrads loss gsat w26 h_h0.rl h_r0.rl (by omega) (by omega) hgn hgsm).mono ?_
  rintro e w27 ⟨rfl, hb⟩
  have hB_w27 : Below w.heap.size w w27 := below2 hB_w26 hb
  have hs_w27 : w26.heap.size ≤ w27.heap.size := hb.size
  replace h_r0 := h_r0.below hb
  replace h_g0 := h_g0.below hb
  replace h_h0 := h_h0.below hb
  replace b_p0_0 := cellB hb b_p0_0
  replace b_p1_0 := cellB hb b_p1_0
  replace b_p1_1 := cellB hb b_p1_1
  replace b_r0_0 := cellB hb b_r0_0
  replace b_r0_1 := cellB hb b_r0_1
  replace b_r0_2 := cellB hb b_r0_2
  replace b_g0_0 := cellB hb b_g0_0
  replace b_g0_1 := cellB hb b_g0_1
  replace b_g0_2 := cellB hb b_g0_2
  replace b_h0_0 := cellB hb b_h0_0
  replace b_h0_1 := cellB hb b_h0_1
  replace b_h0_2 := cellB hb b_h0_2
  clear hb
  go_wp2_with fail
  refine (laws_heldGrads loss gsat (1) w27 h_g0 hgn hgsm (by omega) (by omega)).mono ?_
  rintro e w28 ⟨rfl, hb⟩
  have hB_w28 : Below w.heap.size w w28 := below2 hB_w27 hb
  have hs_w28 : w27.heap.size ≤ w28.heap.size := hb.size
  replace h_r0 := h_r0.below hb
  replace h_g0 := h_g0.below hb
  replace h_h0 := h_h0.below hb
  replace b_p0_0 := cellB hb b_p0_0
  replace b_p1_0 := cellB hb b_p1_0
  replace b_p1_1 := cellB hb b_p1_1
  replace b_r0_0 := cellB hb b_r0_0
  replace b_r0_1 := cellB hb b_r0_1
  replace b_r0_2 := cellB hb b_r0_2
  replace b_g0_0 := cellB hb b_g0_0
  replace b_g0_1 := cellB hb b_g0_1
  replace b_g0_2 := cellB hb b_g0_2
  replace b_h0_0 := cellB hb b_h0_0
  replace b_h0_1 := cellB hb b_h0_1
  replace b_h0_2 := cellB hb b_h0_2
  clear hb
  go_wp2_with fail
  go_ret
  exact ⟨rfl, hB_w28⟩
set_option maxRecDepth 100000 in
theorem lifted (os : Os) (started : os.Started) (H : Type) (enc : TypeId × Value → H) :
    ReturnsInHanded {} Try.checked os 3 .any (Rows.fnExactMicroGradsSpec.pre6 enc Try.prog Try.f3 Rows.fnExactMicroGradsRow.domain false) (Rows.fnExactMicroGradsSpec.post enc Try.prog Try.f3 false true false false) := by
  refine law_lifted (C := Try.checked) (f := 3) (fn := Try.f3) (tb := 4) os (by kernel_rfl) started (by kernel_rfl) Try.func3 (by kernel_rfl) (by kernel_rfl) rfl Try.underlying4 rfl (fun H ds h => ?_) H enc
    (ChangeSpec.witness6 (enc := enc) (C := Try.checked) false ⟨#[], #[.agg #[.slice none 0 0], .agg #[.slice none 0 0, .slice none 0 0]], []⟩ 8 (by kernel_rfl) (by kernel_rfl) (by kernel_rfl) (by kernel_rfl)) ?_
  · rw [show Try.f3.params.size = 2 from by kernel_rfl] at h
    match ds, h with
    | [d0, d1], _ => rfl
  intro W base args ds ps hval hA hlt
  have hval : ∀ (j : Nat) t v, Try.f3.params[j]? = some t → args[j]? = some v → Value.okWide Try.prog W .any base t v := hval
  have hA : DataW.TrodAll enc Try.prog W 0 (fun _ => true) true Try.f3.params.toList args.toList ds ps := hA
  rw [Try.params3] at hA hval
  obtain ⟨v0, vs0, d0, ds0, p0, q0, hargs, rfl, rfl, h0, r0⟩ := trodAll_cons hA
  obtain ⟨v1, vs1, d1, ds1, p1, q1, rfl, rfl, rfl, h1, r1⟩ := trodAll_cons r0
  obtain ⟨rfl, rfl, rfl⟩ := trodAll_nil r1
  obtain rfl : args = #[v0, v1] := by cases args; simp_all
  obtain ⟨A0, n0, c0, ds0, rfl, hR0, hN0, hG0⟩ := openModel (hval 0 24 v0 rfl rfl) h0 (fun x hx => hlt x (by simp [hx]))
  obtain ⟨A1, n1, c1, C1, m1, d1, xs1, ys1, rfl, hR1, hN1, hS1, hM1⟩ := openPair (hval 1 27 v1 rfl rfl) h1 (fun x hx => hlt x (by simp [hx]))
  exact walk W hR0 hN0 (fun j l hj => by rw [List.getElem?_map] at hj; obtain ⟨d, hd, rfl⟩ := Option.map_eq_some_iff.1 hj; exact hG0 j d hd) hR1 hN1 hS1 hM1
theorem proved : Rows.FnExactMicroGradsSaid :=
  OpenClaim.holds_of_wide 3 Try.f3 rfl rfl rfl rfl rfl rfl rfl ⟨rfl, rfl, rfl, rfl, rfl⟩ rfl rfl rfl rfl rfl (by kernel_rfl) Try.func3 (by kernel_rfl)
    (of_decide_eq_true (by kernel_rfl)) (by unfold Func.isWrapper; first | (rw [if_pos (by decide +kernel)]; kernel_rfl) | (rw [if_neg (by decide +kernel)]; exact ⟨rfl, rfl⟩))
    (fun os started H enc _ => lifted os started H enc)
#print axioms proved
end Go.Proofs.Ytehfglfbnjdcoaa.fnExactMicroGrads
