/-
  PROVED HERE: the law 'laws.FnExactLossOf' returns true and leaves its arguments as they were, for every input, without a condition.
-/
import Derived.Test.YtmlnfcmmniiehaaRows
import Derived.Test.YtmlnfcmmniiehaaFrame
import Derived.Test.YtmlnfcmmniiehaaOpen
import Derived.Test.YtmlnfcmmniiehaaLoss
import Derived.WalkKit
import Derived.ProofKit
import Derived.OpenShut
namespace Go.Proofs.Ytmlnfcmmniiehaa.fnExactLossOf
open Go.ChangeShapes Go.WideShapes Go.ChangeAt Go.RowKit
open Go.ChangeMaps (open_string)
set_option linter.unusedVariables false
theorem cells_int : Try.prog.cellsOf 3 = 1 := by kernel_rfl
set_option maxHeartbeats 2000000 in
set_option maxRecDepth 100000 in
theorem walk (w : World) {A0 : Option Addr} {n0 c0 : Nat} {xs0 : List Int} (hR0 : RI w w.heap.size A0 n0 c0 xs0) {A1 : Option Addr} {n1 c1 : Nat} {xs1 : List Int} (hR1 : RI w w.heap.size A1 n1 c1 xs1) : Calls Try.prog 11 #[.slice A0 n0 c0, .slice A1 n1 c1] w fun e w' => e = .returned (.bool true) ∧ Below w.heap.size w w' := by
  by_cases hL0 : (1048576 : Int) < (n0 : Int)
  · go_enter Try.func11, Try.ntmps11
    go_wp2_with fail
    go_ret
    exact ⟨rfl, Below.refl _ _⟩
  by_cases hL1 : (1048576 : Int) < (n1 : Int)
  · go_enter Try.func11, Try.ntmps11
    go_wp2_with fail
    go_ret
    exact ⟨rfl, Below.refl _ _⟩
  have hx0 : xs0.length ≤ 1048576 := by have := hR0.1; omega
  have hx1 : xs1.length ≤ 1048576 := by have := hR1.1; omega
  go_enter Try.func11, Try.ntmps11
  go_wp2_with fail
  refine (toI w (hR0.below (Below.refl _ _)) (Nat.le_refl _) hx0).mono ?_
  rintro e w1 ⟨A_t0, n_t0, c_t0, rfl, h_t0, hb⟩
  have hB1 : Below w.heap.size w w1 := hb
  have hs1 := hb.size
  clear hb
  go_wp2_with fail
  refine (toI w1 (hR1.below (hB1)) hB1.size hx1).mono ?_
  rintro e w2 ⟨A_t1, n_t1, c_t1, rfl, h_t1, hb⟩
  have hB2 : Below w.heap.size w w2 := below2 hB1 hb
  have hs2 := hb.size
  replace h_t0 := h_t0.below hb
  clear hb
  go_wp2_with fail
  refine (spec_LossOf w2 h_t0.ri h_t1.ri (by omega) (by omega) (by have := h_t0.ri.1; omega) (by have := h_t1.ri.1; omega)).mono ?_
  rintro e w3 ⟨rfl, hb⟩
  have hB3 : Below w.heap.size w w3 := below2 hB2 hb
  have hs3 := hb.size
  replace h_t0 := h_t0.below hb
  replace h_t1 := h_t1.below hb
  clear hb
  clear h_t0 h_t1
  go_wp2_with fail
  refine (toI w3 (hR0.below (hB3)) hB3.size hx0).mono ?_
  rintro e w4 ⟨A_x0, n_x0, c_x0, rfl, h_x0, hb⟩
  have hB4 : Below w.heap.size w w4 := below2 hB3 hb
  have hs4 := hb.size
  clear hb
  go_wp2_with fail
  refine (toI w4 (hR1.below (hB4)) hB4.size hx1).mono ?_
  rintro e w5 ⟨A_x1, n_x1, c_x1, rfl, h_x1, hb⟩
  have hB5 : Below w.heap.size w w5 := below2 hB4 hb
  have hs5 := hb.size
  replace h_x0 := h_x0.below hb
  clear hb
  go_wp2_with fail
  refine (impl_LossOf w5 h_x0.ri h_x1.ri (by omega) (by omega) (by have := h_x0.ri.1; omega) (by have := h_x1.ri.1; omega)).mono ?_
  rintro e w6 ⟨rfl, hb⟩
  have hB6 : Below w.heap.size w w6 := below2 hB5 hb
  have hs6 := hb.size
  replace h_x0 := h_x0.below hb
  replace h_x1 := h_x1.below hb
  clear hb
  go_wp2_with fail
  refine (toI w6 (hR0.below (hB6)) hB6.size hx0).mono ?_
  rintro e w7 ⟨A_y, n_y, c_y, rfl, h_y, hb⟩
  have hB7 : Below w.heap.size w w7 := below2 hB6 hb
  have hs7 := hb.size
  replace h_x0 := h_x0.below hb
  replace h_x1 := h_x1.below hb
  clear hb
  go_wp2_with fail
  refine (eqI_same w7 h_x0.ri h_y.ri hx0).mono ?_
  rintro e w8 ⟨rfl, hb⟩
  have hB8 : Below w.heap.size w w8 := below2 hB7 hb
  have hs8 := hb.size
  replace h_x0 := h_x0.below hb
  replace h_x1 := h_x1.below hb
  replace h_y := h_y.below hb
  clear hb
  clear h_y
  go_wp2_with fail
  refine (toI w8 (hR1.below (hB8)) hB8.size hx1).mono ?_
  rintro e w9 ⟨A_y, n_y, c_y, rfl, h_y, hb⟩
  have hB9 : Below w.heap.size w w9 := below2 hB8 hb
  have hs9 := hb.size
  replace h_x0 := h_x0.below hb
  replace h_x1 := h_x1.below hb
  clear hb
  go_wp2_with fail
  refine (eqI_same w9 h_x1.ri h_y.ri hx1).mono ?_
  rintro e w10 ⟨rfl, hb⟩
  have hB10 : Below w.heap.size w w10 := below2 hB9 hb
  have hs10 := hb.size
  replace h_x0 := h_x0.below hb
  replace h_x1 := h_x1.below hb
  replace h_y := h_y.below hb
  clear hb
  clear h_y
  go_wp2_with fail
  go_ret
  exact ⟨rfl, hB10⟩
set_option maxRecDepth 100000 in
theorem lifted (os : Os) (started : os.Started) (H : Type) (enc : TypeId × Value → H) :
    ReturnsInHanded {} Try.checked os 11 .any (Rows.fnExactLossOfSpec.pre6 enc Try.prog Try.f11 Rows.fnExactLossOfRow.domain false) (Rows.fnExactLossOfSpec.post enc Try.prog Try.f11 false true false false) := by
  refine law_lifted (C := Try.checked) (f := 11) (fn := Try.f11) (tb := 4) os (by kernel_rfl) started (by kernel_rfl) Try.func11 (by kernel_rfl) (by kernel_rfl) rfl Try.underlying4 rfl (fun H ds h => ?_) H enc
    (ChangeSpec.witness6 (enc := enc) (C := Try.checked) false ⟨#[], #[.slice none 0 0, .slice none 0 0], []⟩ 8 (by kernel_rfl) (by kernel_rfl) (by kernel_rfl) (by kernel_rfl)) ?_
  · rw [show Try.f11.params.size = 2 from by kernel_rfl] at h
    match ds, h with
    | [d0, d1], _ => rfl
  intro W base args ds ps hval hA hlt
  have hval : ∀ (j : Nat) t v, Try.f11.params[j]? = some t → args[j]? = some v → Value.okWide Try.prog W .any base t v := hval
  have hA : DataW.TrodAll enc Try.prog W 0 (fun _ => true) true Try.f11.params.toList args.toList ds ps := hA
  rw [Try.params11] at hA hval
  obtain ⟨v0, vs0, d0, ds0, p0, q0, hargs, rfl, rfl, h0, r0⟩ := trodAll_cons hA
  obtain ⟨v1, vs1, d1, ds1, p1, q1, rfl, rfl, rfl, h1, r1⟩ := trodAll_cons r0
  obtain ⟨rfl, rfl, rfl⟩ := trodAll_nil r1
  obtain rfl : args = #[v0, v1] := by cases args; simp_all
  obtain ⟨A0, n0, c0, xs0, rfl, hR0⟩ := openI Try.underlying22 Try.underlying3 cells_int (hval 0 22 v0 rfl rfl) h0 (fun x hx => hlt x (by simp [hx]))
  obtain ⟨A1, n1, c1, xs1, rfl, hR1⟩ := openI Try.underlying22 Try.underlying3 cells_int (hval 1 22 v1 rfl rfl) h1 (fun x hx => hlt x (by simp [hx]))
  exact walk W hR0 hR1
theorem proved : Rows.FnExactLossOfSaid :=
  OpenClaim.holds_of_wide 11 Try.f11 rfl rfl rfl rfl rfl rfl rfl ⟨rfl, rfl, rfl, rfl, rfl⟩ rfl rfl rfl rfl rfl (by kernel_rfl) Try.func11 (by kernel_rfl)
    (of_decide_eq_true (by kernel_rfl)) (by unfold Func.isWrapper; first | (rw [if_pos (by decide +kernel)]; kernel_rfl) | (rw [if_neg (by decide +kernel)]; exact ⟨rfl, rfl⟩))
    (fun os started H enc _ => lifted os started H enc)
#print axioms proved
end Go.Proofs.Ytmlnfcmmniiehaa.fnExactLossOf
