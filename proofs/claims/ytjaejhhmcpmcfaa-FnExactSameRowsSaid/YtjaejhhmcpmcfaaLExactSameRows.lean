/-
  PROVED HERE: the law 'laws.FnExactSameRows' returns true and leaves its arguments as they were, for every input, without a condition.
-/
import Derived.Test.YtjaejhhmcpmcfaaRows
import Derived.Test.YtjaejhhmcpmcfaaFrame
import Derived.Test.YtjaejhhmcpmcfaaOpenR
import Derived.Test.YtjaejhhmcpmcfaaOpenM
import Derived.Test.YtjaejhhmcpmcfaaOpen
import Derived.Test.YtjaejhhmcpmcfaaRows2
import Derived.WalkKit
import Derived.Deep.RegionHeld3
import Derived.ProofKit
import Derived.OpenShut
namespace Go.Proofs.Ytjaejhhmcpmcfaa.fnExactSameRows
open Go.ChangeShapes Go.WideShapes Go.ChangeAt Go.RowKit
open Go.ChangeMaps (open_string)
set_option linter.unusedVariables false
theorem cells_int : Try.prog.cellsOf 3 = 1 := by kernel_rfl
set_option maxHeartbeats 4000000 in
set_option maxRecDepth 100000 in
theorem walk (w : World) {A0 : Option Addr} {n0 c0 : Nat} {ds0 : List (List Int)} (hR0 : RL 1 w w.heap.size A0 n0 c0 (ds0.flatMap rowF)) (hN0 : (n0 : Int) ≤ 9223372036854775807) (hH0 : ∀ (j : Nat) (l : Nat), (ds0.map fun d => d.length)[j]? = some l → (l : Int) ≤ 9223372036854775807) {A1 : Option Addr} {n1 c1 : Nat} {ds1 : List (List Int)} (hR1 : RL 1 w w.heap.size A1 n1 c1 (ds1.flatMap rowF)) (hN1 : (n1 : Int) ≤ 9223372036854775807) (hH1 : ∀ (j : Nat) (l : Nat), (ds1.map fun d => d.length)[j]? = some l → (l : Int) ≤ 9223372036854775807) : Calls Try.prog 14 #[.slice A0 n0 c0, .slice A1 n1 c1] w fun e w' => e = .returned (.bool true) ∧ Below w.heap.size w w' := by
  obtain ⟨q0, hq0⟩ : ∃ q, szL n0 (ds0.map fun d => d.length) 1048576 = q := ⟨_, rfl⟩
  have hc0 := szL_case n0 (ds0.map fun d => d.length) 1048576
  rw [hq0] at hc0
  have HQ0 := hide hq0
  clear hq0
  rcases hc0 with rfl | ⟨hq0, hle0, hn0, hk0⟩
  · go_enter Try.func14, Try.ntmps14
    go_wp2_with fail
    have HZ := laws_szRowS 1048576 w (hR0.below (Below.refl w.heap.size w)) (Below.refl w.heap.size w).size (by omega) (by omega) hN0 hH0
    rw [HQ0.out] at HZ
    refine HZ.mono ?_
    clear HZ
    rintro e w1 ⟨rfl, hb⟩
    have hB_w1 : Below w.heap.size w w1 := hb
    have hs_w1 : w.heap.size ≤ w1.heap.size := hb.size
    clear hb
    go_wp2_with fail
    go_ret
    exact ⟨rfl, hB_w1⟩
  obtain ⟨q1, hq1⟩ : ∃ q, szL n1 (ds1.map fun d => d.length) q0 = q := ⟨_, rfl⟩
  have hc1 := szL_case n1 (ds1.map fun d => d.length) q0
  rw [hq1] at hc1
  have HQ1 := hide hq1
  clear hq1
  rcases hc1 with rfl | ⟨hq1, hle1, hn1, hk1⟩
  · go_enter Try.func14, Try.ntmps14
    go_wp2_with fail
    have HZ := laws_szRowS 1048576 w (hR0.below (Below.refl w.heap.size w)) (Below.refl w.heap.size w).size (by omega) (by omega) hN0 hH0
    rw [HQ0.out] at HZ
    refine HZ.mono ?_
    clear HZ
    rintro e w1 ⟨rfl, hb⟩
    have hB_w1 : Below w.heap.size w w1 := hb
    have hs_w1 : w.heap.size ≤ w1.heap.size := hb.size
    clear hb
    go_wp2_with fail
    have HZ := laws_szRowS q0 w1 (hR1.below (hB_w1)) (hB_w1).size (by omega) (by omega) hN1 hH1
    rw [HQ1.out] at HZ
    refine HZ.mono ?_
    clear HZ
    rintro e w2 ⟨rfl, hb⟩
    have hB_w2 : Below w.heap.size w w2 := below2 hB_w1 hb
    have hs_w2 : w1.heap.size ≤ w2.heap.size := hb.size
    clear hb
    go_wp2_with fail
    go_ret
    exact ⟨rfl, hB_w2⟩
  have hx0 : n0 ≤ 1048576 := by omega
  have hsm0 : SmR ds0 := fun j d hj => by have := hk0 j d.length (by rw [List.getElem?_map, hj]; rfl); omega
  have hkk0 := hide hk0
  clear hk0
  have hx1 : n1 ≤ 1048576 := by omega
  have hsm1 : SmR ds1 := fun j d hj => by have := hk1 j d.length (by rw [List.getElem?_map, hj]; rfl); omega
  have hkk1 := hide hk1
  clear hk1
  go_enter Try.func14, Try.ntmps14
  go_wp2_with fail
  have HZ := laws_szRowS 1048576 w (hR0.below (Below.refl w.heap.size w)) (Below.refl w.heap.size w).size (by omega) (by omega) hN0 hH0
  rw [HQ0.out] at HZ
  refine HZ.mono ?_
  clear HZ
  rintro e w1 ⟨rfl, hb⟩
  have hB_w1 : Below w.heap.size w w1 := hb
  have hs_w1 : w.heap.size ≤ w1.heap.size := hb.size
  clear hb
  go_wp2_with fail
  have HZ := laws_szRowS q0 w1 (hR1.below (hB_w1)) (hB_w1).size (by omega) (by omega) hN1 hH1
  rw [HQ1.out] at HZ
  refine HZ.mono ?_
  clear HZ
  rintro e w2 ⟨rfl, hb⟩
  have hB_w2 : Below w.heap.size w w2 := below2 hB_w1 hb
  have hs_w2 : w1.heap.size ≤ w2.heap.size := hb.size
  clear hb
  go_wp2_with fail
  refine (laws_toRowS w2 (hR0.below (hB_w2)) (hB_w2).size hx0 hsm0).mono ?_
  rintro e w3 ⟨A_t0, c_t0, rfl, h_t0, hb⟩
  have hh : OwRows w3 (w2.heap.size) (w3.heap.size) (.slice A_t0 n0 c_t0) n0 (ds0.flatMap rowF) := h_t0
  clear h_t0
  have hB_w3 : Below w.heap.size w w3 := below2 hB_w2 hb
  have hs_w3 : w2.heap.size ≤ w3.heap.size := hb.size
  clear hb
  have h_t0 := hh
  clear hh
  go_wp2_with fail
  refine (laws_toRowS w3 (hR1.below (hB_w3)) (hB_w3).size hx1 hsm1).mono ?_
  rintro e w4 ⟨A_t1, c_t1, rfl, h_t1, hb⟩
  have hh : OwRows w4 (w3.heap.size) (w4.heap.size) (.slice A_t1 n1 c_t1) n1 (ds1.flatMap rowF) := h_t1
  clear h_t1
  have hB_w4 : Below w.heap.size w w4 := below2 hB_w3 hb
  have hs_w4 : w3.heap.size ≤ w4.heap.size := hb.size
  replace h_t0 := h_t0.below hb
  clear hb
  have h_t1 := hh
  clear hh
  go_wp2_with fail
  refine (spec_SameRows w4 h_t0.rl h_t1.rl (by omega) (by omega) hx0 hx1 hsm0 hsm1).mono ?_
  rintro e w5 ⟨rfl, hb⟩
  have hB_w5 : Below w.heap.size w w5 := below2 hB_w4 hb
  have hs_w5 : w4.heap.size ≤ w5.heap.size := hb.size
  replace h_t0 := h_t0.below hb
  replace h_t1 := h_t1.below hb
  clear hb
  clear h_t0 h_t1
  go_wp2_with fail
  refine (laws_toRowS w5 (hR0.below (hB_w5)) (hB_w5).size hx0 hsm0).mono ?_
  rintro e w6 ⟨A_x0, c_x0, rfl, h_x0, hb⟩
  have hh : OwRows w6 (w5.heap.size) (w6.heap.size) (.slice A_x0 n0 c_x0) n0 (ds0.flatMap rowF) := h_x0
  clear h_x0
  have hB_w6 : Below w.heap.size w w6 := below2 hB_w5 hb
  have hs_w6 : w5.heap.size ≤ w6.heap.size := hb.size
  clear hb
  have h_x0 := hh
  clear hh
  go_wp2_with fail
  refine (laws_toRowS w6 (hR1.below (hB_w6)) (hB_w6).size hx1 hsm1).mono ?_
  rintro e w7 ⟨A_x1, c_x1, rfl, h_x1, hb⟩
  have hh : OwRows w7 (w6.heap.size) (w7.heap.size) (.slice A_x1 n1 c_x1) n1 (ds1.flatMap rowF) := h_x1
  clear h_x1
  have hB_w7 : Below w.heap.size w w7 := below2 hB_w6 hb
  have hs_w7 : w6.heap.size ≤ w7.heap.size := hb.size
  replace h_x0 := h_x0.below hb
  clear hb
  have h_x1 := hh
  clear hh
  go_wp2_with fail
  refine (impl_SameRows w7 h_x0.rl h_x1.rl (by omega) (by omega) hx0 hx1 hsm0 hsm1).mono ?_
  rintro e w8 ⟨rfl, hb⟩
  have hB_w8 : Below w.heap.size w w8 := below2 hB_w7 hb
  have hs_w8 : w7.heap.size ≤ w8.heap.size := hb.size
  replace h_x0 := h_x0.below hb
  replace h_x1 := h_x1.below hb
  clear hb
  go_wp2_with fail
  refine (laws_toRowS w8 (hR0.below (hB_w8)) (hB_w8).size hx0 hsm0).mono ?_
  rintro e w9 ⟨A_y, c_y, rfl, h_y, hb⟩
  have hh : OwRows w9 (w8.heap.size) (w9.heap.size) (.slice A_y n0 c_y) n0 (ds0.flatMap rowF) := h_y
  clear h_y
  have hB_w9 : Below w.heap.size w w9 := below2 hB_w8 hb
  have hs_w9 : w8.heap.size ≤ w9.heap.size := hb.size
  replace h_x0 := h_x0.below hb
  replace h_x1 := h_x1.below hb
  clear hb
  have h_y := hh
  clear hh
  go_wp2_with fail
  refine (laws_eqRowS w9 h_x0.rl h_y.rl (by omega) (by omega) hx0 hsm0).mono ?_
  rintro e w10 ⟨rfl, hb⟩
  have hB_w10 : Below w.heap.size w w10 := below2 hB_w9 hb
  have hs_w10 : w9.heap.size ≤ w10.heap.size := hb.size
  replace h_x0 := h_x0.below hb
  replace h_x1 := h_x1.below hb
  replace h_y := h_y.below hb
  clear hb
  clear h_y
  go_wp2_with fail
  refine (laws_toRowS w10 (hR1.below (hB_w10)) (hB_w10).size hx1 hsm1).mono ?_
  rintro e w11 ⟨A_y, c_y, rfl, h_y, hb⟩
  have hh : OwRows w11 (w10.heap.size) (w11.heap.size) (.slice A_y n1 c_y) n1 (ds1.flatMap rowF) := h_y
  clear h_y
  have hB_w11 : Below w.heap.size w w11 := below2 hB_w10 hb
  have hs_w11 : w10.heap.size ≤ w11.heap.size := hb.size
  replace h_x0 := h_x0.below hb
  replace h_x1 := h_x1.below hb
  clear hb
  have h_y := hh
  clear hh
  go_wp2_with fail
  refine (laws_eqRowS w11 h_x1.rl h_y.rl (by omega) (by omega) hx1 hsm1).mono ?_
  rintro e w12 ⟨rfl, hb⟩
  have hB_w12 : Below w.heap.size w w12 := below2 hB_w11 hb
  have hs_w12 : w11.heap.size ≤ w12.heap.size := hb.size
  replace h_x0 := h_x0.below hb
  replace h_x1 := h_x1.below hb
  replace h_y := h_y.below hb
  clear hb
  clear h_y
  go_wp2_with fail
  go_ret
  exact ⟨rfl, hB_w12⟩
set_option maxRecDepth 100000 in
theorem lifted (os : Os) (started : os.Started) (H : Type) (enc : TypeId × Value → H) :
    ReturnsInHanded {} Try.checked os 14 .any (Rows.fnExactSameRowsSpec.pre6 enc Try.prog Try.f14 Rows.fnExactSameRowsRow.domain false) (Rows.fnExactSameRowsSpec.post enc Try.prog Try.f14 false true false false) := by
  refine law_lifted (C := Try.checked) (f := 14) (fn := Try.f14) (tb := 4) os (by kernel_rfl) started (by kernel_rfl) Try.func14 (by kernel_rfl) (by kernel_rfl) rfl Try.underlying4 rfl (fun H ds h => ?_) H enc
    (ChangeSpec.witness6 (enc := enc) (C := Try.checked) false ⟨#[], #[.slice none 0 0, .slice none 0 0], []⟩ 8 (by kernel_rfl) (by kernel_rfl) (by kernel_rfl) (by kernel_rfl)) ?_
  · rw [show Try.f14.params.size = 2 from by kernel_rfl] at h
    match ds, h with
    | [d0, d1], _ => rfl
  intro W base args ds ps hval hA hlt
  have hval : ∀ (j : Nat) t v, Try.f14.params[j]? = some t → args[j]? = some v → Value.okWide Try.prog W .any base t v := hval
  have hA : DataW.TrodAll enc Try.prog W 0 (fun _ => true) true Try.f14.params.toList args.toList ds ps := hA
  rw [Try.params14] at hA hval
  obtain ⟨v0, vs0, d0, ds0, p0, q0, hargs, rfl, rfl, h0, r0⟩ := trodAll_cons hA
  obtain ⟨v1, vs1, d1, ds1, p1, q1, rfl, rfl, rfl, h1, r1⟩ := trodAll_cons r0
  obtain ⟨rfl, rfl, rfl⟩ := trodAll_nil r1
  obtain rfl : args = #[v0, v1] := by cases args; simp_all
  obtain ⟨A0, n0, c0, ds0, rfl, hR0, hN0, hG0⟩ := openRows (hval 0 60 v0 rfl rfl) h0 (fun x hx => hlt x (by simp [hx]))
  obtain ⟨A1, n1, c1, ds1, rfl, hR1, hN1, hG1⟩ := openRows (hval 1 60 v1 rfl rfl) h1 (fun x hx => hlt x (by simp [hx]))
  exact walk W hR0 hN0 (fun j l hj => by rw [List.getElem?_map] at hj; obtain ⟨d, hd, rfl⟩ := Option.map_eq_some_iff.1 hj; exact hG0 j d hd) hR1 hN1 (fun j l hj => by rw [List.getElem?_map] at hj; obtain ⟨d, hd, rfl⟩ := Option.map_eq_some_iff.1 hj; exact hG1 j d hd)
theorem proved : Rows.FnExactSameRowsSaid :=
  OpenClaim.holds_of_wide 14 Try.f14 rfl rfl rfl rfl rfl rfl rfl ⟨rfl, rfl, rfl, rfl, rfl⟩ rfl rfl rfl rfl rfl (by kernel_rfl) Try.func14 (by kernel_rfl)
    (of_decide_eq_true (by kernel_rfl)) (by unfold Func.isWrapper; first | (rw [if_pos (by decide +kernel)]; kernel_rfl) | (rw [if_neg (by decide +kernel)]; exact ⟨rfl, rfl⟩))
    (fun os started H enc _ => lifted os started H enc)
#print axioms proved
end Go.Proofs.Ytjaejhhmcpmcfaa.fnExactSameRows
