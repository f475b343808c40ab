/-
  PROVED HERE: the law 'laws.FnExactInputs' returns true and leaves its arguments as they were, for every input, without a condition.
-/
import Derived.Test.YtehfglfbnjdcoaaRows
import Derived.Test.YtehfglfbnjdcoaaFrame
import Derived.Test.YtehfglfbnjdcoaaOpenR
import Derived.Test.YtehfglfbnjdcoaaOpenM
import Derived.Test.YtehfglfbnjdcoaaOpen
import Derived.Test.YtehfglfbnjdcoaaInpI
import Derived.Test.YtehfglfbnjdcoaaInpS
import Derived.Test.YtehfglfbnjdcoaaMkN
import Derived.Test.YtehfglfbnjdcoaaMarkO
import Derived.Test.YtehfglfbnjdcoaaMarkR
import Derived.WalkKit
import Derived.Deep.RegionHeld3
import Derived.ProofKit
import Derived.OpenShut
namespace Go.Proofs.Ytehfglfbnjdcoaa.fnExactInputs
open Go.ChangeShapes Go.WideShapes Go.ChangeAt Go.RowKit
set_option maxRecDepth 100000
open Go.ChangeMaps (open_string)
set_option linter.unusedVariables false
theorem cells_int : Try.prog.cellsOf 3 = 1 := by kernel_rfl
set_option maxHeartbeats 8000000 in
set_option maxRecDepth 100000 in
theorem walk (w : World) {A0 : Option Addr} {n0 c0 : Nat} {ds0 : List OpD} (hR0 : RL 4 w w.heap.size A0 n0 c0 (ds0.flatMap opF)) (hN0 : (n0 : Int) ≤ 9223372036854775807) (hH0 : ∀ (j : Nat) (l : Nat), (ds0.map fun d => d.p.length)[j]? = some l → (l : Int) ≤ 9223372036854775807) {A1 : Option Addr} {n1 c1 : Nat} {xs1 : List Int} (hR1 : RI w w.heap.size A1 n1 c1 xs1) : Calls Try.prog 6 #[.agg #[.slice A0 n0 c0], .slice A1 n1 c1] w fun e w' => e = .returned (.bool true) ∧ Below w.heap.size w w' := by
  by_cases hL1 : (1048576 : Int) < (n1 : Int)
  · go_enter Try.func6, Try.ntmps6
    go_wp2_with fail
    go_ret
    exact ⟨rfl, by first | exact Below.refl _ _ | exact (Below.refl _ _).alloc (Nat.le_refl _) _ | exact ((Below.refl _ _).alloc (Nat.le_refl _) _).alloc (by simp) _⟩
  obtain ⟨q0, hq0⟩ : ∃ q, szL n0 (ds0.map fun d => d.p.length) 1048576 = q := ⟨_, rfl⟩
  have hc0 := szL_case n0 (ds0.map fun d => d.p.length) 1048576
  rw [hq0] at hc0
  have HQ0 := hide hq0
  clear hq0
  rcases hc0 with rfl | ⟨hq0, hle0, hn0, hk0⟩
  · go_enter Try.func6, Try.ntmps6
    go_wp2_with fail
    obtain ⟨w1, hw0⟩ : ∃ W, W = w.alloc (.cells #[.slice A0 n0 c0] 24) := ⟨_, rfl⟩
    have hb : Below w.heap.size w w1 := hw0 ▸ (Below.refl _ _).alloc (Nat.le_refl _) _
    have hz_p0 : w1.heap.size = w.heap.size + 1 := by rw [hw0]; simp
    have c_0 : w1.cell? ⟨w.heap.size, 0, none⟩ = some (.slice A0 n0 c0) := by rw [hw0]; simp
    have hB_w1 : Below w.heap.size w w1 := hb
    have hs_w1 : w.heap.size ≤ w1.heap.size := hb.size
    clear hb
    have b_p0_0 := c_0
    clear c_0
    rw [← hw0]
    clear hw0
    have HZ := laws_szModel 1048576 w1 (hR0.below (hB_w1)) (hB_w1).size (by omega) (by omega) hN0 hH0
    rw [HQ0.out] at HZ
    refine HZ.mono ?_
    clear HZ
    rintro e w2 ⟨rfl, hb⟩
    have hB_w2 : Below w.heap.size w w2 := below2 hB_w1 hb
    have hs_w2 : w1.heap.size ≤ w2.heap.size := hb.size
    replace b_p0_0 := cellB hb b_p0_0
    clear hb
    go_wp2_with fail
    go_ret
    exact ⟨rfl, hB_w2⟩
  have hx0 : n0 ≤ 1048576 := by omega
  have hsm0 : SmO ds0 := fun j d hj => by have := hk0 j d.p.length (by rw [List.getElem?_map, hj]; rfl); omega
  have hkk0 := hide hk0
  clear hk0
  have hx1 : xs1.length ≤ 1048576 := by have := hR1.1; omega
  have hmk0 := mkN_model hR0 HQ0.out hq0 (by omega)
  obtain ⟨rows, hrw⟩ : ∃ rows, inpR ds0 xs1 = rows := ⟨_, rfl⟩
  obtain ⟨fsat, hfs⟩ : ∃ fsat, inpS ds0 xs1 = fsat := ⟨_, rfl⟩
  have hsmg : SmG 9 6 rows := hrw ▸ inpR_sm ds0 xs1
  have hgn : rows.length ≤ 1048576 := Nat.le_trans hsmg.1 (by omega)
  have hgsm : SmR rows := hsmg.smR (by omega)
  have hgm : mkN (rows.flatMap rowF) ≤ 54 := hsmg.mkN
  have HRW := hide hrw
  have HFS := hide hfs
  clear hrw hfs hsmg
  go_enter Try.func6, Try.ntmps6
  go_wp2_with fail
  obtain ⟨w1, hw0⟩ : ∃ W, W = w.alloc (.cells #[.slice A0 n0 c0] 24) := ⟨_, rfl⟩
  have hb : Below w.heap.size w w1 := hw0 ▸ (Below.refl _ _).alloc (Nat.le_refl _) _
  have hz_p0 : w1.heap.size = w.heap.size + 1 := by rw [hw0]; simp
  have c_0 : w1.cell? ⟨w.heap.size, 0, none⟩ = some (.slice A0 n0 c0) := by rw [hw0]; simp
  have hB_w1 : Below w.heap.size w w1 := hb
  have hs_w1 : w.heap.size ≤ w1.heap.size := hb.size
  clear hb
  have b_p0_0 := c_0
  clear c_0
  rw [← hw0]
  clear hw0
  have HZ := laws_szModel 1048576 w1 (hR0.below (hB_w1)) (hB_w1).size (by omega) (by omega) hN0 hH0
  rw [HQ0.out] at HZ
  refine HZ.mono ?_
  clear HZ
  rintro e w2 ⟨rfl, hb⟩
  have hB_w2 : Below w.heap.size w w2 := below2 hB_w1 hb
  have hs_w2 : w1.heap.size ≤ w2.heap.size := hb.size
  replace b_p0_0 := cellB hb b_p0_0
  clear hb
  go_wp2_with fail
  refine (laws_toModel w2 (hR0.below (hB_w2)) (hB_w2).size hx0 hsm0).mono ?_
  rintro e w3 ⟨A_t0, c_t0, rfl, h_t0, hb⟩
  have hh : OwOps w3 (w2.heap.size) (w3.heap.size) (.slice A_t0 n0 c_t0) n0 (ds0.flatMap opF) := h_t0
  clear h_t0
  have hB_w3 : Below w.heap.size w w3 := below2 hB_w2 hb
  have hs_w3 : w2.heap.size ≤ w3.heap.size := hb.size
  replace b_p0_0 := cellB hb b_p0_0
  clear hb
  have h_t0 := hh
  clear hh
  go_wp2_with fail
  refine (toI w3 (hR1.below (hB_w3)) (hB_w3).size hx1).mono ?_
  rintro e w4 ⟨A_t1, n_t1, c_t1, rfl, h_t1, hb⟩
  have hh : OwI w4 (w3.heap.size) (w4.heap.size) (.slice A_t1 n_t1 c_t1) (xs1) := h_t1
  clear h_t1
  have hB_w4 : Below w.heap.size w w4 := below2 hB_w3 hb
  have hs_w4 : w3.heap.size ≤ w4.heap.size := hb.size
  replace h_t0 := h_t0.below hb
  replace b_p0_0 := cellB hb b_p0_0
  clear hb
  have h_t1 := hh
  clear hh
  go_wp2_with fail
  refine (flatR (spec_Inputs w4 h_t0.rl (by omega) hx0 hsm0 h_t1.ri (by omega) (by have := h_t1.ri.1; omega)) HRW.out HFS.out).mono ?_
  rintro e w5 ⟨A_r0, c_r0, rfl, h_r0, hb⟩
  have hh_r0 : OwRows w5 (w4.heap.size) (w5.heap.size) (.slice A_r0 rows.length c_r0) rows.length (rows.flatMap rowF) := h_r0
  clear h_r0
  have hB_w5 : Below w.heap.size w w5 := below2 hB_w4 hb
  have hs_w5 : w4.heap.size ≤ w5.heap.size := hb.size
  replace h_t0 := h_t0.below hb
  replace h_t1 := h_t1.below hb
  replace b_p0_0 := cellB hb b_p0_0
  clear hb
  have h_r0 := hh_r0
  clear hh_r0
  clear h_t0 h_t1
  go_wp2_with fail
  refine (laws_toModel w5 (hR0.below (hB_w5)) (hB_w5).size hx0 hsm0).mono ?_
  rintro e w6 ⟨A_x0, c_x0, rfl, h_x0, hb⟩
  have hh : OwOps w6 (w5.heap.size) (w6.heap.size) (.slice A_x0 n0 c_x0) n0 (ds0.flatMap opF) := h_x0
  clear h_x0
  have hB_w6 : Below w.heap.size w w6 := below2 hB_w5 hb
  have hs_w6 : w5.heap.size ≤ w6.heap.size := hb.size
  replace h_r0 := h_r0.below hb
  replace b_p0_0 := cellB hb b_p0_0
  clear hb
  have h_x0 := hh
  clear hh
  have ba_p0_0 := fun o => cellB ((Below.refl _ _).alloc (Nat.le_refl _) o) b_p0_0
  go_wp2_with fail
  clear ba_p0_0
  obtain ⟨w7, hw⟩ : ∃ W, W = w6.alloc (.cells #[.slice A_x0 n0 c_x0] 36) := ⟨_, rfl⟩
  have hb : Below w6.heap.size w6 w7 := hw ▸ (Below.refl _ _).alloc (Nat.le_refl _) _
  have hz_x0 : w6.heap.size < w7.heap.size := by rw [hw]; simp
  have c_0 : w7.cell? ⟨w6.heap.size, 0, none⟩ = some (.slice A_x0 n0 c_x0) := by rw [hw]; simp
  rw [← hw]
  clear hw
  have hB_w7 : Below w.heap.size w w7 := below2 hB_w6 hb
  have hs_w7 : w6.heap.size ≤ w7.heap.size := hb.size
  replace h_r0 := h_r0.below hb
  replace h_x0 := h_x0.below hb
  replace b_p0_0 := cellB hb b_p0_0
  clear hb
  have b_x0_0 := c_0
  clear c_0
  refine (toI w7 (hR1.below (hB_w7)) (hB_w7).size hx1).mono ?_
  rintro e w8 ⟨A_x1, n_x1, c_x1, rfl, h_x1, hb⟩
  have hh : OwI w8 (w7.heap.size) (w8.heap.size) (.slice A_x1 n_x1 c_x1) (xs1) := h_x1
  clear h_x1
  have hB_w8 : Below w.heap.size w w8 := below2 hB_w7 hb
  have hs_w8 : w7.heap.size ≤ w8.heap.size := hb.size
  replace h_r0 := h_r0.below hb
  replace h_x0 := h_x0.below hb
  replace b_p0_0 := cellB hb b_p0_0
  replace b_x0_0 := cellB hb b_x0_0
  clear hb
  have h_x1 := hh
  clear hh
  go_wp2_with fail
  refine (flatR (impl_Inputs w8 h_x0.rl (by omega) hx0 hsm0 h_x1.ri (by omega) (by have := h_x1.ri.1; omega)) HRW.out HFS.out).mono ?_
  rintro e w9 ⟨A_g0, c_g0, rfl, h_g0, hb⟩
  have hh_g0 : OwRows w9 (w8.heap.size) (w9.heap.size) (.slice A_g0 rows.length c_g0) rows.length (rows.flatMap rowF) := h_g0
  clear h_g0
  have hB_w9 : Below w.heap.size w w9 := below2 hB_w8 hb
  have hs_w9 : w8.heap.size ≤ w9.heap.size := hb.size
  replace h_r0 := h_r0.below hb
  replace h_x0 := h_x0.below hb
  replace h_x1 := h_x1.below hb
  replace b_p0_0 := cellB hb b_p0_0
  replace b_x0_0 := cellB hb b_x0_0
  clear hb
  have h_g0 := hh_g0
  clear hh_g0
  go_wp2_with fail
  refine (laws_eqRowS w9 h_g0.rl h_r0.rl (by omega) (by omega) hgn hgsm).mono ?_
  rintro e w10 ⟨rfl, hb⟩
  have hB_w10 : Below w.heap.size w w10 := below2 hB_w9 hb
  have hs_w10 : w9.heap.size ≤ w10.heap.size := hb.size
  replace h_r0 := h_r0.below hb
  replace h_x0 := h_x0.below hb
  replace h_x1 := h_x1.below hb
  replace h_g0 := h_g0.below hb
  replace b_p0_0 := cellB hb b_p0_0
  replace b_x0_0 := cellB hb b_x0_0
  clear hb
  go_wp2_with fail
  have gate0 : True := trivial
  have gate1 : True := trivial
  go_region_held3 (fun W => W.cell? ⟨w.heap.size, 0, none⟩ = some (.slice A0 n0 c0) ∧ W.cell? ⟨w6.heap.size, 0, none⟩ = some (.slice A_x0 n0 c_x0)) (first | exact ⟨b_p0_0, b_x0_0⟩) (first
    | (clear gate0; go_at_call 17; refine (laws_toModel w10.drew (hR0.below (hB_w10.drew)) (hB_w10.drew).size hx0 hsm0).mono ?_; rintro e w11 ⟨A_y, c_y, rfl, h_y, hb⟩; have hb := undrew hb; have hh : OwOps w11 (w10.heap.size) (w11.heap.size) (.slice A_y n0 c_y) n0 (ds0.flatMap opF) := h_y; clear h_y; have hB_w11 : Below w.heap.size w w11 := below2 hB_w10 hb; have hs_w11 : w10.heap.size ≤ w11.heap.size := hb.size; replace h_r0 := h_r0.below hb; replace h_x0 := h_x0.below hb; replace h_x1 := h_x1.below hb; replace h_g0 := h_g0.below hb; replace b_p0_0 := cellB hb b_p0_0; replace b_x0_0 := cellB hb b_x0_0; clear hb; have h_y := hh; clear hh)
    | (clear gate1; go_at_call 21; refine (laws_eqModel w11 h_x0.rl h_y.rl (by omega) (by omega) hx0 hsm0).mono ?_; rintro e w12 ⟨rfl, hb⟩; have hB_w12 : Below w.heap.size w w12 := below2 hB_w11 hb; have hs_w12 : w11.heap.size ≤ w12.heap.size := hb.size; replace h_r0 := h_r0.below hb; replace h_x0 := h_x0.below hb; replace h_x1 := h_x1.below hb; replace h_g0 := h_g0.below hb; replace h_y := h_y.below hb; replace b_p0_0 := cellB hb b_p0_0; replace b_x0_0 := cellB hb b_x0_0; clear hb))
  clear h_y
  go_wp2_with fail
  refine (toI w12 (hR1.below (hB_w12)) (hB_w12).size hx1).mono ?_
  rintro e w13 ⟨A_y, n_y, c_y, rfl, h_y, hb⟩
  have hh : OwI w13 (w12.heap.size) (w13.heap.size) (.slice A_y n_y c_y) (xs1) := h_y
  clear h_y
  have hB_w13 : Below w.heap.size w w13 := below2 hB_w12 hb
  have hs_w13 : w12.heap.size ≤ w13.heap.size := hb.size
  replace h_r0 := h_r0.below hb
  replace h_x0 := h_x0.below hb
  replace h_x1 := h_x1.below hb
  replace h_g0 := h_g0.below hb
  replace b_p0_0 := cellB hb b_p0_0
  replace b_x0_0 := cellB hb b_x0_0
  clear hb
  have h_y := hh
  clear hh
  go_wp2_with fail
  refine (eqI_same w13 h_x1.ri h_y.ri hx1).mono ?_
  rintro e w14 ⟨rfl, hb⟩
  have hB_w14 : Below w.heap.size w w14 := below2 hB_w13 hb
  have hs_w14 : w13.heap.size ≤ w14.heap.size := hb.size
  replace h_r0 := h_r0.below hb
  replace h_x0 := h_x0.below hb
  replace h_x1 := h_x1.below hb
  replace h_g0 := h_g0.below hb
  replace h_y := h_y.below hb
  replace b_p0_0 := cellB hb b_p0_0
  replace b_x0_0 := cellB hb b_x0_0
  clear hb
  clear h_y
  go_wp2_with fail
  refine (laws_markModel (1) w14 h_x0 hx0 hsm0 (by omega) (by omega)).mono ?_
  rintro e w15 ⟨rfl, hm, ho⟩
  have hB_w15 : Below w.heap.size w w15 := hB_w14.trans (ho.below hB_w14.size (fun q hq h3 => by have h4 : w5.heap.size ≤ q ∧ q < w6.heap.size := h3; omega))
  have hs_w15 : w14.heap.size ≤ w15.heap.size := ho.size
  replace h_r0 := h_r0.farI ho (by omega)
  replace h_x1 := h_x1.farI ho (by omega)
  replace h_g0 := h_g0.farI ho (by omega)
  replace b_p0_0 := boxfarI ho b_p0_0 (by show w.heap.size < w5.heap.size ∨ w6.heap.size ≤ w.heap.size; omega)
  replace b_x0_0 := boxfarI ho b_x0_0 (by show w6.heap.size < w5.heap.size ∨ w6.heap.size ≤ w6.heap.size; omega)
  clear h_x0 ho
  have h_x0 := hm
  clear hm
  go_wp2_with fail
  refine (laws_markIntS (1 + (mkN (ds0.flatMap opF) : Int)) w15 h_x1 (hx1) (by omega) (by omega)).mono ?_
  rintro e w16 ⟨rfl, hm, ho⟩
  replace ho : Only (fun b => w7.heap.size ≤ b ∧ b < w8.heap.size) w15 w16 := ho.mono fun q hq => ⟨(h_x1.1.lt q hq).1, h_x1.2 q hq⟩
  have hB_w16 : Below w.heap.size w w16 := hB_w15.trans (ho.below hB_w15.size (fun q hq h3 => by have h4 : w7.heap.size ≤ q ∧ q < w8.heap.size := h3; omega))
  have hs_w16 : w15.heap.size ≤ w16.heap.size := ho.size
  replace h_r0 := h_r0.farI ho (by omega)
  replace h_x0 := h_x0.farI ho (by omega)
  replace h_g0 := h_g0.farI ho (by omega)
  replace b_p0_0 := boxfarI ho b_p0_0 (by show w.heap.size < w7.heap.size ∨ w8.heap.size ≤ w.heap.size; omega)
  replace b_x0_0 := boxfarI ho b_x0_0 (by show w6.heap.size < w7.heap.size ∨ w8.heap.size ≤ w6.heap.size; omega)
  clear h_x1 ho
  have h_x1 := hm
  clear hm
  clear h_x0 h_x1
  clear b_x0_0
  go_wp2_with fail
  refine (laws_eqRowS w16 h_g0.rl h_r0.rl (by omega) (by omega) hgn hgsm).mono ?_
  rintro e w17 ⟨rfl, hb⟩
  have hB_w17 : Below w.heap.size w w17 := below2 hB_w16 hb
  have hs_w17 : w16.heap.size ≤ w17.heap.size := hb.size
  replace h_r0 := h_r0.below hb
  replace h_g0 := h_g0.below hb
  replace b_p0_0 := cellB hb b_p0_0
  clear hb
  go_wp2_with fail
  refine (laws_markRowS (1) w17 h_g0 hgn hgsm (by omega) (by omega)).mono ?_
  rintro e w18 ⟨rfl, hm, ho⟩
  have hB_w18 : Below w.heap.size w w18 := hB_w17.trans (ho.below hB_w17.size (fun q hq h3 => by have h4 : w8.heap.size ≤ q ∧ q < w9.heap.size := h3; omega))
  have hs_w18 : w17.heap.size ≤ w18.heap.size := ho.size
  replace h_r0 := h_r0.farI ho (by omega)
  replace b_p0_0 := boxfarI ho b_p0_0 (by show w.heap.size < w8.heap.size ∨ w9.heap.size ≤ w.heap.size; omega)
  clear h_g0 ho
  have h_g0 := hm
  clear hm
  go_wp2_with fail
  refine (laws_heldRowS (1) w18 h_g0 hgn hgsm (by omega) (by omega)).mono ?_
  rintro e w19 ⟨rfl, hb⟩
  have hB_w19 : Below w.heap.size w w19 := below2 hB_w18 hb
  have hs_w19 : w18.heap.size ≤ w19.heap.size := hb.size
  replace h_r0 := h_r0.below hb
  replace h_g0 := h_g0.below hb
  replace b_p0_0 := cellB hb b_p0_0
  clear hb
  go_wp2_with fail
  refine (laws_toModel w19 (hR0.below (hB_w19)) (hB_w19).size hx0 hsm0).mono ?_
  rintro e w20 ⟨A_t0, c_t0, rfl, h_t0, hb⟩
  have hh : OwOps w20 (w19.heap.size) (w20.heap.size) (.slice A_t0 n0 c_t0) n0 (ds0.flatMap opF) := h_t0
  clear h_t0
  have hB_w20 : Below w.heap.size w w20 := below2 hB_w19 hb
  have hs_w20 : w19.heap.size ≤ w20.heap.size := hb.size
  replace h_r0 := h_r0.below hb
  replace h_g0 := h_g0.below hb
  replace b_p0_0 := cellB hb b_p0_0
  clear hb
  have h_t0 := hh
  clear hh
  go_wp2_with fail
  refine (toI w20 (hR1.below (hB_w20)) (hB_w20).size hx1).mono ?_
  rintro e w21 ⟨A_t1, n_t1, c_t1, rfl, h_t1, hb⟩
  have hh : OwI w21 (w20.heap.size) (w21.heap.size) (.slice A_t1 n_t1 c_t1) (xs1) := h_t1
  clear h_t1
  have hB_w21 : Below w.heap.size w w21 := below2 hB_w20 hb
  have hs_w21 : w20.heap.size ≤ w21.heap.size := hb.size
  replace h_r0 := h_r0.below hb
  replace h_g0 := h_g0.below hb
  replace h_t0 := h_t0.below hb
  replace b_p0_0 := cellB hb b_p0_0
  clear hb
  have h_t1 := hh
  clear hh
  go_wp2_with fail
  refine (flatR (impl_Inputs w21 h_t0.rl (by omega) hx0 hsm0 h_t1.ri (by omega) (by have := h_t1.ri.1; omega)) HRW.out HFS.out).mono ?_
  rintro e w22 ⟨A_h0, c_h0, rfl, h_h0, hb⟩
  have hh_h0 : OwRows w22 (w21.heap.size) (w22.heap.size) (.slice A_h0 rows.length c_h0) rows.length (rows.flatMap rowF) := h_h0
  clear h_h0
  have hB_w22 : Below w.heap.size w w22 := below2 hB_w21 hb
  have hs_w22 : w21.heap.size ≤ w22.heap.size := hb.size
  replace h_r0 := h_r0.below hb
  replace h_g0 := h_g0.below hb
  replace h_t0 := h_t0.below hb
  replace h_t1 := h_t1.below hb
  replace b_p0_0 := cellB hb b_p0_0
  clear hb
  have h_h0 := hh_h0
  clear hh_h0
  clear h_t0 h_t1
  go_wp2_with fail
  refine (laws_eqRowS w22 h_h0.rl h_r0.rl (by omega) (by omega) hgn hgsm).mono ?_
  rintro e w23 ⟨rfl, hb⟩
  have hB_w23 : Below w.heap.size w w23 := below2 hB_w22 hb
  have hs_w23 : w22.heap.size ≤ w23.heap.size := hb.size
  replace h_r0 := h_r0.below hb
  replace h_g0 := h_g0.below hb
  replace h_h0 := h_h0.below hb
  replace b_p0_0 := cellB hb b_p0_0
  clear hb
  go_wp2_with fail
  refine (laws_heldRowS (1) w23 h_g0 hgn hgsm (by omega) (by omega)).mono ?_
  rintro e w24 ⟨rfl, hb⟩
  have hB_w24 : Below w.heap.size w w24 := below2 hB_w23 hb
  have hs_w24 : w23.heap.size ≤ w24.heap.size := hb.size
  replace h_r0 := h_r0.below hb
  replace h_g0 := h_g0.below hb
  replace h_h0 := h_h0.below hb
  replace b_p0_0 := cellB hb b_p0_0
  clear hb
  go_wp2_with fail
  go_ret
  exact ⟨rfl, hB_w24⟩
set_option maxRecDepth 100000 in
theorem lifted (os : Os) (started : os.Started) (H : Type) (enc : TypeId × Value → H) :
    ReturnsInHanded {} Try.checked os 6 .any (Rows.fnExactInputsSpec.pre6 enc Try.prog Try.f6 Rows.fnExactInputsRow.domain false) (Rows.fnExactInputsSpec.post enc Try.prog Try.f6 false true false false) := by
  refine law_lifted (C := Try.checked) (f := 6) (fn := Try.f6) (tb := 4) os (by kernel_rfl) started (by kernel_rfl) Try.func6 (by kernel_rfl) (by kernel_rfl) rfl Try.underlying4 rfl (fun H ds h => ?_) H enc
    (ChangeSpec.witness6 (enc := enc) (C := Try.checked) false ⟨#[], #[.agg #[.slice none 0 0], .slice none 0 0], []⟩ 8 (by kernel_rfl) (by kernel_rfl) (by kernel_rfl) (by kernel_rfl)) ?_
  · rw [show Try.f6.params.size = 2 from by kernel_rfl] at h
    match ds, h with
    | [d0, d1], _ => rfl
  intro W base args ds ps hval hA hlt
  have hval : ∀ (j : Nat) t v, Try.f6.params[j]? = some t → args[j]? = some v → Value.okWide Try.prog W .any base t v := hval
  have hA : DataW.TrodAll enc Try.prog W 0 (fun _ => true) true Try.f6.params.toList args.toList ds ps := hA
  rw [Try.params6] at hA hval
  obtain ⟨v0, vs0, d0, ds0, p0, q0, hargs, rfl, rfl, h0, r0⟩ := trodAll_cons hA
  obtain ⟨v1, vs1, d1, ds1, p1, q1, rfl, rfl, rfl, h1, r1⟩ := trodAll_cons r0
  obtain ⟨rfl, rfl, rfl⟩ := trodAll_nil r1
  obtain rfl : args = #[v0, v1] := by cases args; simp_all
  obtain ⟨A0, n0, c0, ds0, rfl, hR0, hN0, hG0⟩ := openModel (hval 0 24 v0 rfl rfl) h0 (fun x hx => hlt x (by simp [hx]))
  obtain ⟨A1, n1, c1, xs1, rfl, hR1⟩ := openI Try.underlying25 Try.underlying3 cells_int (hval 1 25 v1 rfl rfl) h1 (fun x hx => hlt x (by simp [hx]))
  exact walk W hR0 hN0 (fun j l hj => by rw [List.getElem?_map] at hj; obtain ⟨d, hd, rfl⟩ := Option.map_eq_some_iff.1 hj; exact hG0 j d hd) hR1
theorem proved : Rows.FnExactInputsSaid :=
  OpenClaim.holds_of_wide 6 Try.f6 rfl rfl rfl rfl rfl rfl rfl ⟨rfl, rfl, rfl, rfl, rfl⟩ rfl rfl rfl rfl rfl (by kernel_rfl) Try.func6 (by kernel_rfl)
    (of_decide_eq_true (by kernel_rfl)) (by unfold Func.isWrapper; first | (rw [if_pos (by decide +kernel)]; kernel_rfl) | (rw [if_neg (by decide +kernel)]; exact ⟨rfl, rfl⟩))
    (fun os started H enc _ => lifted os started H enc)
#print axioms proved
end Go.Proofs.Ytehfglfbnjdcoaa.fnExactInputs
