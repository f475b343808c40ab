/-
  PROVED HERE: the law 'laws.FnExactBatchOk' returns true and leaves its arguments as they were, for every input, without a condition.
-/
import Derived.Test.YtehfglfbnjdcoaaRows
import Derived.Test.YtehfglfbnjdcoaaFrame
import Derived.Test.YtehfglfbnjdcoaaOpenR
import Derived.Test.YtehfglfbnjdcoaaOpenM
import Derived.Test.YtehfglfbnjdcoaaOpen
import Derived.Test.YtehfglfbnjdcoaaBatchI
import Derived.Test.YtehfglfbnjdcoaaBatchS
import Derived.Test.YtehfglfbnjdcoaaOpenG
import Derived.Test.YtehfglfbnjdcoaaPairS
import Derived.WalkKit
import Derived.Deep.RegionHeld3
import Derived.ProofKit
import Derived.OpenShut
namespace Go.Proofs.Ytehfglfbnjdcoaa.fnExactBatchOk
open Go.ChangeShapes Go.WideShapes Go.ChangeAt Go.RowKit
set_option maxRecDepth 100000
open Go.ChangeMaps (open_string)
set_option linter.unusedVariables false
theorem cells_int : Try.prog.cellsOf 3 = 1 := by kernel_rfl
set_option maxHeartbeats 4000000 in
set_option maxRecDepth 100000 in
theorem walk (w : World) {A0 : Option Addr} {n0 c0 : Nat} {ds0 : List OpD} (hR0 : RL 4 w w.heap.size A0 n0 c0 (ds0.flatMap opF)) (hN0 : (n0 : Int) ≤ 9223372036854775807) (hH0 : ∀ (j : Nat) (l : Nat), (ds0.map fun d => d.p.length)[j]? = some l → (l : Int) ≤ 9223372036854775807) {A1 : Option Addr} {n1 c1 : Nat} {ds1 : List PrD} (hR1 : RL 2 w w.heap.size A1 n1 c1 (ds1.flatMap prF)) (hN1 : (n1 : Int) ≤ 9223372036854775807) (hH1 : ∀ (j : Nat) (l : Nat), (lensP ds1)[j]? = some l → (l : Int) ≤ 9223372036854775807) : Calls Try.prog 10 #[.agg #[.slice A0 n0 c0], .slice A1 n1 c1] w fun e w' => e = .returned (.bool true) ∧ Below w.heap.size w w' := by
  obtain ⟨q0, hq0⟩ : ∃ q, szL n0 (ds0.map fun d => d.p.length) 1048576 = q := ⟨_, rfl⟩
  have hc0 := szL_case n0 (ds0.map fun d => d.p.length) 1048576
  rw [hq0] at hc0
  have HQ0 := hide hq0
  clear hq0
  rcases hc0 with rfl | ⟨hq0, hle0, hn0, hk0⟩
  · go_enter Try.func10, Try.ntmps10
    go_wp2_with fail
    obtain ⟨w1, hw0⟩ : ∃ W, W = w.alloc (.cells #[.slice A0 n0 c0] 24) := ⟨_, rfl⟩
    have hb : Below w.heap.size w w1 := hw0 ▸ (Below.refl _ _).alloc (Nat.le_refl _) _
    have hz_p0 : w1.heap.size = w.heap.size + 1 := by rw [hw0]; simp
    have c_0 : w1.cell? ⟨w.heap.size, 0, none⟩ = some (.slice A0 n0 c0) := by rw [hw0]; simp
    have hB_w1 : Below w.heap.size w w1 := hb
    have hs_w1 : w.heap.size ≤ w1.heap.size := hb.size
    clear hb
    have b_p0_0 := c_0
    clear c_0
    rw [← hw0]
    clear hw0
    have HZ := laws_szModel 1048576 w1 (hR0.below (hB_w1)) (hB_w1).size (by omega) (by omega) hN0 hH0
    rw [HQ0.out] at HZ
    refine HZ.mono ?_
    clear HZ
    rintro e w2 ⟨rfl, hb⟩
    have hB_w2 : Below w.heap.size w w2 := below2 hB_w1 hb
    have hs_w2 : w1.heap.size ≤ w2.heap.size := hb.size
    replace b_p0_0 := cellB hb b_p0_0
    clear hb
    go_wp2_with fail
    go_ret
    exact ⟨rfl, hB_w2⟩
  obtain ⟨q1, hq1⟩ : ∃ q, szL n1 (lensP ds1) q0 = q := ⟨_, rfl⟩
  have hc1 := szL_case n1 (lensP ds1) q0
  rw [hq1] at hc1
  have HQ1 := hide hq1
  clear hq1
  rcases hc1 with rfl | ⟨hq1, hle1, hn1, hk1⟩
  · go_enter Try.func10, Try.ntmps10
    go_wp2_with fail
    obtain ⟨w1, hw0⟩ : ∃ W, W = w.alloc (.cells #[.slice A0 n0 c0] 24) := ⟨_, rfl⟩
    have hb : Below w.heap.size w w1 := hw0 ▸ (Below.refl _ _).alloc (Nat.le_refl _) _
    have hz_p0 : w1.heap.size = w.heap.size + 1 := by rw [hw0]; simp
    have c_0 : w1.cell? ⟨w.heap.size, 0, none⟩ = some (.slice A0 n0 c0) := by rw [hw0]; simp
    have hB_w1 : Below w.heap.size w w1 := hb
    have hs_w1 : w.heap.size ≤ w1.heap.size := hb.size
    clear hb
    have b_p0_0 := c_0
    clear c_0
    rw [← hw0]
    clear hw0
    have HZ := laws_szModel 1048576 w1 (hR0.below (hB_w1)) (hB_w1).size (by omega) (by omega) hN0 hH0
    rw [HQ0.out] at HZ
    refine HZ.mono ?_
    clear HZ
    rintro e w2 ⟨rfl, hb⟩
    have hB_w2 : Below w.heap.size w w2 := below2 hB_w1 hb
    have hs_w2 : w1.heap.size ≤ w2.heap.size := hb.size
    replace b_p0_0 := cellB hb b_p0_0
    clear hb
    go_wp2_with fail
    have HZ := laws_szPairS q0 w2 (hR1.below (hB_w2)) (hB_w2).size (by omega) (by omega) hN1 hH1
    rw [HQ1.out] at HZ
    refine HZ.mono ?_
    clear HZ
    rintro e w3 ⟨rfl, hb⟩
    have hB_w3 : Below w.heap.size w w3 := below2 hB_w2 hb
    have hs_w3 : w2.heap.size ≤ w3.heap.size := hb.size
    replace b_p0_0 := cellB hb b_p0_0
    clear hb
    go_wp2_with fail
    go_ret
    exact ⟨rfl, hB_w3⟩
  have hx0 : n0 ≤ 1048576 := by omega
  have hsm0 : SmO ds0 := fun j d hj => by have := hk0 j d.p.length (by rw [List.getElem?_map, hj]; rfl); omega
  have hkk0 := hide hk0
  clear hk0
  have hx1 : n1 ≤ 1048576 := by omega
  have hsm1 : SmP ds1 := smP_of (by omega) hk1
  have hkk1 := hide hk1
  clear hk1
  go_enter Try.func10, Try.ntmps10
  go_wp2_with fail
  obtain ⟨w1, hw0⟩ : ∃ W, W = w.alloc (.cells #[.slice A0 n0 c0] 24) := ⟨_, rfl⟩
  have hb : Below w.heap.size w w1 := hw0 ▸ (Below.refl _ _).alloc (Nat.le_refl _) _
  have hz_p0 : w1.heap.size = w.heap.size + 1 := by rw [hw0]; simp
  have c_0 : w1.cell? ⟨w.heap.size, 0, none⟩ = some (.slice A0 n0 c0) := by rw [hw0]; simp
  have hB_w1 : Below w.heap.size w w1 := hb
  have hs_w1 : w.heap.size ≤ w1.heap.size := hb.size
  clear hb
  have b_p0_0 := c_0
  clear c_0
  rw [← hw0]
  clear hw0
  have HZ := laws_szModel 1048576 w1 (hR0.below (hB_w1)) (hB_w1).size (by omega) (by omega) hN0 hH0
  rw [HQ0.out] at HZ
  refine HZ.mono ?_
  clear HZ
  rintro e w2 ⟨rfl, hb⟩
  have hB_w2 : Below w.heap.size w w2 := below2 hB_w1 hb
  have hs_w2 : w1.heap.size ≤ w2.heap.size := hb.size
  replace b_p0_0 := cellB hb b_p0_0
  clear hb
  go_wp2_with fail
  have HZ := laws_szPairS q0 w2 (hR1.below (hB_w2)) (hB_w2).size (by omega) (by omega) hN1 hH1
  rw [HQ1.out] at HZ
  refine HZ.mono ?_
  clear HZ
  rintro e w3 ⟨rfl, hb⟩
  have hB_w3 : Below w.heap.size w w3 := below2 hB_w2 hb
  have hs_w3 : w2.heap.size ≤ w3.heap.size := hb.size
  replace b_p0_0 := cellB hb b_p0_0
  clear hb
  go_wp2_with fail
  refine (laws_toModel w3 (hR0.below (hB_w3)) (hB_w3).size hx0 hsm0).mono ?_
  rintro e w4 ⟨A_t0, c_t0, rfl, h_t0, hb⟩
  have hh : OwOps w4 (w3.heap.size) (w4.heap.size) (.slice A_t0 n0 c_t0) n0 (ds0.flatMap opF) := h_t0
  clear h_t0
  have hB_w4 : Below w.heap.size w w4 := below2 hB_w3 hb
  have hs_w4 : w3.heap.size ≤ w4.heap.size := hb.size
  replace b_p0_0 := cellB hb b_p0_0
  clear hb
  have h_t0 := hh
  clear hh
  go_wp2_with fail
  refine (laws_toPairS w4 (hR1.below (hB_w4)) (hB_w4).size hx1 hsm1).mono ?_
  rintro e w5 ⟨A_t1, c_t1, rfl, h_t1, hb⟩
  have hh : OwPrs w5 (w4.heap.size) (w5.heap.size) (.slice A_t1 n1 c_t1) n1 (ds1.flatMap prF) := h_t1
  clear h_t1
  have hB_w5 : Below w.heap.size w w5 := below2 hB_w4 hb
  have hs_w5 : w4.heap.size ≤ w5.heap.size := hb.size
  replace h_t0 := h_t0.below hb
  replace b_p0_0 := cellB hb b_p0_0
  clear hb
  have h_t1 := hh
  clear hh
  go_wp2_with fail
  refine (spec_BatchOk w5 h_t0.rl (by omega) hx0 hsm0 h_t1.rl (by omega) hx1 hsm1).mono ?_
  rintro e w6 ⟨rfl, hb⟩
  have hB_w6 : Below w.heap.size w w6 := below2 hB_w5 hb
  have hs_w6 : w5.heap.size ≤ w6.heap.size := hb.size
  replace h_t0 := h_t0.below hb
  replace h_t1 := h_t1.below hb
  replace b_p0_0 := cellB hb b_p0_0
  clear hb
  clear h_t0 h_t1
  go_wp2_with fail
  refine (laws_toModel w6 (hR0.below (hB_w6)) (hB_w6).size hx0 hsm0).mono ?_
  rintro e w7 ⟨A_x0, c_x0, rfl, h_x0, hb⟩
  have hh : OwOps w7 (w6.heap.size) (w7.heap.size) (.slice A_x0 n0 c_x0) n0 (ds0.flatMap opF) := h_x0
  clear h_x0
  have hB_w7 : Below w.heap.size w w7 := below2 hB_w6 hb
  have hs_w7 : w6.heap.size ≤ w7.heap.size := hb.size
  replace b_p0_0 := cellB hb b_p0_0
  clear hb
  have h_x0 := hh
  clear hh
  have ba_p0_0 := fun o => cellB ((Below.refl _ _).alloc (Nat.le_refl _) o) b_p0_0
  go_wp2_with fail
  clear ba_p0_0
  obtain ⟨w8, hw⟩ : ∃ W, W = w7.alloc (.cells #[.slice A_x0 n0 c_x0] 36) := ⟨_, rfl⟩
  have hb : Below w7.heap.size w7 w8 := hw ▸ (Below.refl _ _).alloc (Nat.le_refl _) _
  have hz_x0 : w7.heap.size < w8.heap.size := by rw [hw]; simp
  have c_0 : w8.cell? ⟨w7.heap.size, 0, none⟩ = some (.slice A_x0 n0 c_x0) := by rw [hw]; simp
  rw [← hw]
  clear hw
  have hB_w8 : Below w.heap.size w w8 := below2 hB_w7 hb
  have hs_w8 : w7.heap.size ≤ w8.heap.size := hb.size
  replace h_x0 := h_x0.below hb
  replace b_p0_0 := cellB hb b_p0_0
  clear hb
  have b_x0_0 := c_0
  clear c_0
  refine (laws_toPairS w8 (hR1.below (hB_w8)) (hB_w8).size hx1 hsm1).mono ?_
  rintro e w9 ⟨A_x1, c_x1, rfl, h_x1, hb⟩
  have hh : OwPrs w9 (w8.heap.size) (w9.heap.size) (.slice A_x1 n1 c_x1) n1 (ds1.flatMap prF) := h_x1
  clear h_x1
  have hB_w9 : Below w.heap.size w w9 := below2 hB_w8 hb
  have hs_w9 : w8.heap.size ≤ w9.heap.size := hb.size
  replace h_x0 := h_x0.below hb
  replace b_p0_0 := cellB hb b_p0_0
  replace b_x0_0 := cellB hb b_x0_0
  clear hb
  have h_x1 := hh
  clear hh
  go_wp2_with fail
  refine (impl_BatchOk w9 h_x0.rl (by omega) hx0 hsm0 h_x1.rl (by omega) hx1 hsm1).mono ?_
  rintro e w10 ⟨rfl, hb⟩
  have hB_w10 : Below w.heap.size w w10 := below2 hB_w9 hb
  have hs_w10 : w9.heap.size ≤ w10.heap.size := hb.size
  replace h_x0 := h_x0.below hb
  replace h_x1 := h_x1.below hb
  replace b_p0_0 := cellB hb b_p0_0
  replace b_x0_0 := cellB hb b_x0_0
  clear hb
  go_wp2_with fail
  have gate0 : True := trivial
  have gate1 : True := trivial
  go_region_held3 (fun W => W.cell? ⟨w.heap.size, 0, none⟩ = some (.slice A0 n0 c0) ∧ W.cell? ⟨w7.heap.size, 0, none⟩ = some (.slice A_x0 n0 c_x0)) (first | exact ⟨b_p0_0, b_x0_0⟩) (first
    | (clear gate0; go_at_call 17; refine (laws_toModel w10.drew (hR0.below (hB_w10.drew)) (hB_w10.drew).size hx0 hsm0).mono ?_; rintro e w11 ⟨A_y, c_y, rfl, h_y, hb⟩; have hb := undrew hb; have hh : OwOps w11 (w10.heap.size) (w11.heap.size) (.slice A_y n0 c_y) n0 (ds0.flatMap opF) := h_y; clear h_y; have hB_w11 : Below w.heap.size w w11 := below2 hB_w10 hb; have hs_w11 : w10.heap.size ≤ w11.heap.size := hb.size; replace h_x0 := h_x0.below hb; replace h_x1 := h_x1.below hb; replace b_p0_0 := cellB hb b_p0_0; replace b_x0_0 := cellB hb b_x0_0; clear hb; have h_y := hh; clear hh)
    | (clear gate1; go_at_call 21; refine (laws_eqModel w11 h_x0.rl h_y.rl (by omega) (by omega) hx0 hsm0).mono ?_; rintro e w12 ⟨rfl, hb⟩; have hB_w12 : Below w.heap.size w w12 := below2 hB_w11 hb; have hs_w12 : w11.heap.size ≤ w12.heap.size := hb.size; replace h_x0 := h_x0.below hb; replace h_x1 := h_x1.below hb; replace h_y := h_y.below hb; replace b_p0_0 := cellB hb b_p0_0; replace b_x0_0 := cellB hb b_x0_0; clear hb))
  clear h_y
  go_wp2_with fail
  refine (laws_toPairS w12 (hR1.below (hB_w12)) (hB_w12).size hx1 hsm1).mono ?_
  rintro e w13 ⟨A_y, c_y, rfl, h_y, hb⟩
  have hh : OwPrs w13 (w12.heap.size) (w13.heap.size) (.slice A_y n1 c_y) n1 (ds1.flatMap prF) := h_y
  clear h_y
  have hB_w13 : Below w.heap.size w w13 := below2 hB_w12 hb
  have hs_w13 : w12.heap.size ≤ w13.heap.size := hb.size
  replace h_x0 := h_x0.below hb
  replace h_x1 := h_x1.below hb
  replace b_p0_0 := cellB hb b_p0_0
  replace b_x0_0 := cellB hb b_x0_0
  clear hb
  have h_y := hh
  clear hh
  go_wp2_with fail
  refine (laws_eqPairS w13 h_x1.rl h_y.rl (by omega) (by omega) hx1 hsm1).mono ?_
  rintro e w14 ⟨rfl, hb⟩
  have hB_w14 : Below w.heap.size w w14 := below2 hB_w13 hb
  have hs_w14 : w13.heap.size ≤ w14.heap.size := hb.size
  replace h_x0 := h_x0.below hb
  replace h_x1 := h_x1.below hb
  replace h_y := h_y.below hb
  replace b_p0_0 := cellB hb b_p0_0
  replace b_x0_0 := cellB hb b_x0_0
  clear hb
  clear h_y
  go_wp2_with fail
  go_ret
  exact ⟨rfl, hB_w14⟩
set_option maxRecDepth 100000 in
theorem lifted (os : Os) (started : os.Started) (H : Type) (enc : TypeId × Value → H) :
    ReturnsInHanded {} Try.checked os 10 .any (Rows.fnExactBatchOkSpec.pre6 enc Try.prog Try.f10 Rows.fnExactBatchOkRow.domain false) (Rows.fnExactBatchOkSpec.post enc Try.prog Try.f10 false true false false) := by
  refine law_lifted (C := Try.checked) (f := 10) (fn := Try.f10) (tb := 4) os (by kernel_rfl) started (by kernel_rfl) Try.func10 (by kernel_rfl) (by kernel_rfl) rfl Try.underlying4 rfl (fun H ds h => ?_) H enc
    (ChangeSpec.witness6 (enc := enc) (C := Try.checked) false ⟨#[], #[.agg #[.slice none 0 0], .slice none 0 0], []⟩ 8 (by kernel_rfl) (by kernel_rfl) (by kernel_rfl) (by kernel_rfl)) ?_
  · rw [show Try.f10.params.size = 2 from by kernel_rfl] at h
    match ds, h with
    | [d0, d1], _ => rfl
  intro W base args ds ps hval hA hlt
  have hval : ∀ (j : Nat) t v, Try.f10.params[j]? = some t → args[j]? = some v → Value.okWide Try.prog W .any base t v := hval
  have hA : DataW.TrodAll enc Try.prog W 0 (fun _ => true) true Try.f10.params.toList args.toList ds ps := hA
  rw [Try.params10] at hA hval
  obtain ⟨v0, vs0, d0, ds0, p0, q0, hargs, rfl, rfl, h0, r0⟩ := trodAll_cons hA
  obtain ⟨v1, vs1, d1, ds1, p1, q1, rfl, rfl, rfl, h1, r1⟩ := trodAll_cons r0
  obtain ⟨rfl, rfl, rfl⟩ := trodAll_nil r1
  obtain rfl : args = #[v0, v1] := by cases args; simp_all
  obtain ⟨A0, n0, c0, ds0, rfl, hR0, hN0, hG0⟩ := openModel (hval 0 24 v0 rfl rfl) h0 (fun x hx => hlt x (by simp [hx]))
  obtain ⟨A1, n1, c1, ds1, rfl, hR1, hN1, hG1⟩ := openPairs (hval 1 77 v1 rfl rfl) h1 (fun x hx => hlt x (by simp [hx]))
  exact walk W hR0 hN0 (fun j l hj => by rw [List.getElem?_map] at hj; obtain ⟨d, hd, rfl⟩ := Option.map_eq_some_iff.1 hj; exact hG0 j d hd) hR1 hN1 (lensP_hg hG1)
theorem proved : Rows.FnExactBatchOkSaid :=
  OpenClaim.holds_of_wide 10 Try.f10 rfl rfl rfl rfl rfl rfl rfl ⟨rfl, rfl, rfl, rfl, rfl⟩ rfl rfl rfl rfl rfl (by kernel_rfl) Try.func10 (by kernel_rfl)
    (of_decide_eq_true (by kernel_rfl)) (by unfold Func.isWrapper; first | (rw [if_pos (by decide +kernel)]; kernel_rfl) | (rw [if_neg (by decide +kernel)]; exact ⟨rfl, rfl⟩))
    (fun os started H enc _ => lifted os started H enc)
#print axioms proved
end Go.Proofs.Ytehfglfbnjdcoaa.fnExactBatchOk
