/-
  PROVED HERE: the law 'laws.FnExactVecOk' returns true and leaves its arguments as they were, for every input, without a condition.
-/
import Derived.Test.YtmlnfcmmniiehaaRows
import Derived.Test.YtmlnfcmmniiehaaFrame
import Derived.Test.YtmlnfcmmniiehaaOpen
import Derived.Test.YtmlnfcmmniiehaaVec2
import Derived.WalkKit
import Derived.ProofKit
import Derived.OpenShut
namespace Go.Proofs.Ytmlnfcmmniiehaa.fnExactVecOk
open Go.ChangeShapes Go.WideShapes Go.ChangeAt Go.RowKit
open Go.ChangeMaps (open_string)
set_option linter.unusedVariables false
theorem cells_int : Try.prog.cellsOf 3 = 1 := by kernel_rfl
set_option maxHeartbeats 2000000 in
set_option maxRecDepth 100000 in
theorem walk (w : World) {A0 : Option Addr} {n0 c0 : Nat} {xs0 : List Int} (hR0 : RI w w.heap.size A0 n0 c0 xs0) : Calls Try.prog 3 #[.slice A0 n0 c0] w fun e w' => e = .returned (.bool true) ∧ Below w.heap.size w w' := by
  by_cases hL0 : (1048576 : Int) < (n0 : Int)
  · go_enter Try.func3, Try.ntmps3
    go_wp2_with fail
    go_ret
    exact ⟨rfl, Below.refl _ _⟩
  have hx0 : xs0.length ≤ 1048576 := by have := hR0.1; omega
  go_enter Try.func3, Try.ntmps3
  go_wp2_with fail
  refine (toI w (hR0.below (Below.refl _ _)) (Nat.le_refl _) hx0).mono ?_
  rintro e w1 ⟨A_t0, n_t0, c_t0, rfl, h_t0, hb⟩
  have hB1 : Below w.heap.size w w1 := hb
  have hs1 := hb.size
  clear hb
  go_wp2_with fail
  refine (spec_VecOk w1 h_t0.ri (by have := h_t0.ri.1; omega)).mono ?_
  rintro e w' ⟨rfl, rfl⟩
  clear h_t0
  go_wp2_with fail
  refine (toI w1 (hR0.below (hB1)) hB1.size hx0).mono ?_
  rintro e w2 ⟨A_x0, n_x0, c_x0, rfl, h_x0, hb⟩
  have hB2 : Below w.heap.size w w2 := below2 hB1 hb
  have hs2 := hb.size
  clear hb
  go_wp2_with fail
  refine (impl_VecOk w2 h_x0.ri (by have := h_x0.ri.1; omega)).mono ?_
  rintro e w' ⟨rfl, rfl⟩
  go_wp2_with fail
  refine (toI w2 (hR0.below (hB2)) hB2.size hx0).mono ?_
  rintro e w3 ⟨A_y, n_y, c_y, rfl, h_y, hb⟩
  have hB3 : Below w.heap.size w w3 := below2 hB2 hb
  have hs3 := hb.size
  replace h_x0 := h_x0.below hb
  clear hb
  go_wp2_with fail
  refine (eqI_same w3 h_x0.ri h_y.ri hx0).mono ?_
  rintro e w4 ⟨rfl, hb⟩
  have hB4 : Below w.heap.size w w4 := below2 hB3 hb
  have hs4 := hb.size
  replace h_x0 := h_x0.below hb
  replace h_y := h_y.below hb
  clear hb
  clear h_y
  go_wp2_with fail
  go_ret
  exact ⟨rfl, hB4⟩
set_option maxRecDepth 100000 in
theorem lifted (os : Os) (started : os.Started) (H : Type) (enc : TypeId × Value → H) :
    ReturnsInHanded {} Try.checked os 3 .any (Rows.fnExactVecOkSpec.pre6 enc Try.prog Try.f3 Rows.fnExactVecOkRow.domain false) (Rows.fnExactVecOkSpec.post enc Try.prog Try.f3 false true false false) := by
  refine law_lifted (C := Try.checked) (f := 3) (fn := Try.f3) (tb := 4) os (by kernel_rfl) started (by kernel_rfl) Try.func3 (by kernel_rfl) (by kernel_rfl) rfl Try.underlying4 rfl (fun H ds h => ?_) H enc
    (ChangeSpec.witness6 (enc := enc) (C := Try.checked) false ⟨#[], #[.slice none 0 0], []⟩ 8 (by kernel_rfl) (by kernel_rfl) (by kernel_rfl) (by kernel_rfl)) ?_
  · rw [show Try.f3.params.size = 1 from by kernel_rfl] at h
    match ds, h with
    | [d0], _ => rfl
  intro W base args ds ps hval hA hlt
  have hval : ∀ (j : Nat) t v, Try.f3.params[j]? = some t → args[j]? = some v → Value.okWide Try.prog W .any base t v := hval
  have hA : DataW.TrodAll enc Try.prog W 0 (fun _ => true) true Try.f3.params.toList args.toList ds ps := hA
  rw [Try.params3] at hA hval
  obtain ⟨v0, vs0, d0, ds0, p0, q0, hargs, rfl, rfl, h0, r0⟩ := trodAll_cons hA
  obtain ⟨rfl, rfl, rfl⟩ := trodAll_nil r0
  obtain rfl : args = #[v0] := by cases args; simp_all
  obtain ⟨A0, n0, c0, xs0, rfl, hR0⟩ := openI Try.underlying22 Try.underlying3 cells_int (hval 0 22 v0 rfl rfl) h0 (fun x hx => hlt x (by simp [hx]))
  exact walk W hR0
theorem proved : Rows.FnExactVecOkSaid :=
  OpenClaim.holds_of_wide 3 Try.f3 rfl rfl rfl rfl rfl rfl rfl ⟨rfl, rfl, rfl, rfl, rfl⟩ rfl rfl rfl rfl rfl (by kernel_rfl) Try.func3 (by kernel_rfl)
    (of_decide_eq_true (by kernel_rfl)) (by unfold Func.isWrapper; first | (rw [if_pos (by decide +kernel)]; kernel_rfl) | (rw [if_neg (by decide +kernel)]; exact ⟨rfl, rfl⟩))
    (fun os started H enc _ => lifted os started H enc)
#print axioms proved
end Go.Proofs.Ytmlnfcmmniiehaa.fnExactVecOk
