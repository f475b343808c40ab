/-
  PROVED HERE: the law 'laws.FnExactVecScale' returns true and leaves its arguments as they were, for every input, without a condition.
-/
import Derived.Test.YtmlnfcmmniiehaaRows
import Derived.Test.YtmlnfcmmniiehaaFrame
import Derived.Test.YtmlnfcmmniiehaaOpen
import Derived.Test.YtmlnfcmmniiehaaVec2
import Derived.WalkKit
import Derived.ProofKit
import Derived.OpenShut
namespace Go.Proofs.Ytmlnfcmmniiehaa.fnExactVecScale
open Go.ChangeShapes Go.WideShapes Go.ChangeAt Go.RowKit
open Go.ChangeMaps (open_string)
set_option linter.unusedVariables false
theorem cells_int : Try.prog.cellsOf 3 = 1 := by kernel_rfl
set_option maxHeartbeats 2000000 in
set_option maxRecDepth 100000 in
theorem walk (w : World) (a0 : Int) (wf0 : (Lit.int .i64 a0).wf = true) {A1 : Option Addr} {n1 c1 : Nat} {xs1 : List Int} (hR1 : RI w w.heap.size A1 n1 c1 xs1) : Calls Try.prog 7 #[.int .i64 a0, .slice A1 n1 c1] w fun e w' => e = .returned (.bool true) ∧ Below w.heap.size w w' := by
  by_cases hL1 : (1048576 : Int) < (n1 : Int)
  · go_enter Try.func7, Try.ntmps7
    go_wp2_with fail
    go_ret
    exact ⟨rfl, Below.refl _ _⟩
  have hx1 : xs1.length ≤ 1048576 := by have := hR1.1; omega
  have hlen : (vScale a0 xs1).length ≤ 1048576 := by have := vScale_len a0 xs1; omega
  go_enter Try.func7, Try.ntmps7
  go_wp2_with fail
  refine (toI w (hR1.below (Below.refl _ _)) (Nat.le_refl _) hx1).mono ?_
  rintro e w1 ⟨A_t1, n_t1, c_t1, rfl, h_t1, hb⟩
  have hB1 : Below w.heap.size w w1 := hb
  have hs1 := hb.size
  clear hb
  go_wp2_with fail
  refine (spec_VecScale a0 w1 h_t1.ri (by omega) (by have := h_t1.ri.1; omega)).mono ?_
  rintro e w2 ⟨v_r, rfl, hq⟩
  obtain ⟨A_r, n_r, c_r, rfl, h_r, hb⟩ := newI hq
  clear hq
  have hB2 : Below w.heap.size w w2 := below2 hB1 hb
  have hs2 := hb.size
  replace h_t1 := h_t1.below hb
  clear hb
  clear h_t1
  go_wp2_with fail
  refine (toI w2 (hR1.below (hB2)) hB2.size hx1).mono ?_
  rintro e w3 ⟨A_x1, n_x1, c_x1, rfl, h_x1, hb⟩
  have hB3 : Below w.heap.size w w3 := below2 hB2 hb
  have hs3 := hb.size
  replace h_r := h_r.below hb
  clear hb
  go_wp2_with fail
  refine (impl_VecScale a0 w3 h_x1.ri (by omega) (by have := h_x1.ri.1; omega)).mono ?_
  rintro e w4 ⟨v_g, rfl, hq⟩
  obtain ⟨A_g, n_g, c_g, rfl, h_g, hb⟩ := newI hq
  clear hq
  have hB4 : Below w.heap.size w w4 := below2 hB3 hb
  have hs4 := hb.size
  replace h_r := h_r.below hb
  replace h_x1 := h_x1.below hb
  clear hb
  go_wp2_with fail
  refine (eqI_same w4 h_g.ri h_r.ri hlen).mono ?_
  rintro e w5 ⟨rfl, hb⟩
  have hB5 : Below w.heap.size w w5 := below2 hB4 hb
  have hs5 := hb.size
  replace h_r := h_r.below hb
  replace h_x1 := h_x1.below hb
  replace h_g := h_g.below hb
  clear hb
  go_wp2_with fail
  refine (toI w5 (hR1.below (hB5)) hB5.size hx1).mono ?_
  rintro e w6 ⟨A_y, n_y, c_y, rfl, h_y, hb⟩
  have hB6 : Below w.heap.size w w6 := below2 hB5 hb
  have hs6 := hb.size
  replace h_r := h_r.below hb
  replace h_x1 := h_x1.below hb
  replace h_g := h_g.below hb
  clear hb
  go_wp2_with fail
  refine (eqI_same w6 h_x1.ri h_y.ri hx1).mono ?_
  rintro e w7 ⟨rfl, hb⟩
  have hB7 : Below w.heap.size w w7 := below2 hB6 hb
  have hs7 := hb.size
  replace h_r := h_r.below hb
  replace h_x1 := h_x1.below hb
  replace h_g := h_g.below hb
  replace h_y := h_y.below hb
  clear hb
  clear h_y
  go_wp2_with fail
  refine (laws_markIntS (1) w7 h_x1 (hx1) (by omega) (by omega)).mono ?_
  rintro e w8 ⟨rfl, hm, ho⟩
  have hB8 : Below w.heap.size w w8 := hB7.trans (h_x1.only_below ho hB7.size (by omega))
  have hs8 := ho.size
  replace h_r := h_r.far h_x1 ho (by omega)
  replace h_g := h_g.far h_x1 ho (by omega)
  clear h_x1 ho
  have h_x1 := hm
  clear hm
  clear h_x1
  go_wp2_with fail
  refine (eqI_same w8 h_g.ri h_r.ri hlen).mono ?_
  rintro e w9 ⟨rfl, hb⟩
  have hB9 : Below w.heap.size w w9 := below2 hB8 hb
  have hs9 := hb.size
  replace h_r := h_r.below hb
  replace h_g := h_g.below hb
  clear hb
  go_wp2_with fail
  refine (laws_markIntS (1) w9 h_g (hlen) (by omega) (by omega)).mono ?_
  rintro e w10 ⟨rfl, hm, ho⟩
  have hB10 : Below w.heap.size w w10 := hB9.trans (h_g.only_below ho hB9.size (by omega))
  have hs10 := ho.size
  replace h_r := h_r.far h_g ho (by omega)
  clear h_g ho
  have h_g := hm
  clear hm
  go_wp2_with fail
  refine (heldI (1) w10 h_g (hlen) (by omega) (by omega)).mono ?_
  rintro e w' ⟨rfl, rfl⟩
  go_wp2_with fail
  refine (toI w10 (hR1.below (hB10)) hB10.size hx1).mono ?_
  rintro e w11 ⟨A_t1, n_t1, c_t1, rfl, h_t1, hb⟩
  have hB11 : Below w.heap.size w w11 := below2 hB10 hb
  have hs11 := hb.size
  replace h_r := h_r.below hb
  replace h_g := h_g.below hb
  clear hb
  go_wp2_with fail
  refine (impl_VecScale a0 w11 h_t1.ri (by omega) (by have := h_t1.ri.1; omega)).mono ?_
  rintro e w12 ⟨v_h, rfl, hq⟩
  obtain ⟨A_h, n_h, c_h, rfl, h_h, hb⟩ := newI hq
  clear hq
  have hB12 : Below w.heap.size w w12 := below2 hB11 hb
  have hs12 := hb.size
  replace h_r := h_r.below hb
  replace h_g := h_g.below hb
  replace h_t1 := h_t1.below hb
  clear hb
  clear h_t1
  go_wp2_with fail
  refine (eqI_same w12 h_h.ri h_r.ri hlen).mono ?_
  rintro e w13 ⟨rfl, hb⟩
  have hB13 : Below w.heap.size w w13 := below2 hB12 hb
  have hs13 := hb.size
  replace h_r := h_r.below hb
  replace h_g := h_g.below hb
  replace h_h := h_h.below hb
  clear hb
  go_wp2_with fail
  refine (heldI (1) w13 h_g (hlen) (by omega) (by omega)).mono ?_
  rintro e w' ⟨rfl, rfl⟩
  go_wp2_with fail
  go_ret
  exact ⟨rfl, hB13⟩
set_option maxRecDepth 100000 in
theorem lifted (os : Os) (started : os.Started) (H : Type) (enc : TypeId × Value → H) :
    ReturnsInHanded {} Try.checked os 7 .any (Rows.fnExactVecScaleSpec.pre6 enc Try.prog Try.f7 Rows.fnExactVecScaleRow.domain false) (Rows.fnExactVecScaleSpec.post enc Try.prog Try.f7 false true false false) := by
  refine law_lifted (C := Try.checked) (f := 7) (fn := Try.f7) (tb := 4) os (by kernel_rfl) started (by kernel_rfl) Try.func7 (by kernel_rfl) (by kernel_rfl) rfl Try.underlying4 rfl (fun H ds h => ?_) H enc
    (ChangeSpec.witness6 (enc := enc) (C := Try.checked) false ⟨#[], #[.int .i64 0, .slice none 0 0], []⟩ 8 (by kernel_rfl) (by kernel_rfl) (by kernel_rfl) (by kernel_rfl)) ?_
  · rw [show Try.f7.params.size = 2 from by kernel_rfl] at h
    match ds, h with
    | [d0, d1], _ => rfl
  intro W base args ds ps hval hA hlt
  have hval : ∀ (j : Nat) t v, Try.f7.params[j]? = some t → args[j]? = some v → Value.okWide Try.prog W .any base t v := hval
  have hA : DataW.TrodAll enc Try.prog W 0 (fun _ => true) true Try.f7.params.toList args.toList ds ps := hA
  rw [Try.params7] at hA hval
  obtain ⟨v0, vs0, d0, ds0, p0, q0, hargs, rfl, rfl, h0, r0⟩ := trodAll_cons hA
  obtain ⟨v1, vs1, d1, ds1, p1, q1, rfl, rfl, rfl, h1, r1⟩ := trodAll_cons r0
  obtain ⟨rfl, rfl, rfl⟩ := trodAll_nil r1
  obtain rfl : args = #[v0, v1] := by cases args; simp_all
  obtain ⟨a0, rfl, rfl, rfl, wf0⟩ := open_int Try.underlying3 (hval 0 3 v0 rfl rfl) h0
  obtain ⟨A1, n1, c1, xs1, rfl, hR1⟩ := openI Try.underlying22 Try.underlying3 cells_int (hval 1 22 v1 rfl rfl) h1 (fun x hx => hlt x (by simp [hx]))
  exact walk W a0 wf0 hR1
theorem proved : Rows.FnExactVecScaleSaid :=
  OpenClaim.holds_of_wide 7 Try.f7 rfl rfl rfl rfl rfl rfl rfl ⟨rfl, rfl, rfl, rfl, rfl⟩ rfl rfl rfl rfl rfl (by kernel_rfl) Try.func7 (by kernel_rfl)
    (of_decide_eq_true (by kernel_rfl)) (by unfold Func.isWrapper; first | (rw [if_pos (by decide +kernel)]; kernel_rfl) | (rw [if_neg (by decide +kernel)]; exact ⟨rfl, rfl⟩))
    (fun os started H enc _ => lifted os started H enc)
#print axioms proved
end Go.Proofs.Ytmlnfcmmniiehaa.fnExactVecScale
