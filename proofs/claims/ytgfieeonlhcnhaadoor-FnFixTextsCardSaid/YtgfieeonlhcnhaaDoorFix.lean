/-
  The contracts of the fixed-point functions of the program and of the reference.
-/
import Derived.Test.YtgfieeonlhcnhaaDoorProg
import Derived.Test.YtgfieeonlhcnhaaDoorPlainA
import Derived.WalkKit
namespace Go.Proofs.YtgfieeonlhcnhaaDoor
open Go.RowKit
set_option maxRecDepth 100000

theorem spec_l1In (x a b : Int) (w : World) : Calls Tryd.prog 39 #[.int .i64 x, .int .i64 a, .int .i64 b] w fun e w' => e = .returned (.bool (decide (a ≤ x) && decide (x ≤ b))) ∧ w = w' := by
  go_enter Tryd.func39, Tryd.ntmps39
  go_wp2
  all_goals go_ret
  all_goals exact ⟨rB (by rw [Bool.eq_iff_iff]; simp; omega), rfl⟩
theorem spec_l1In_no (x a b : Int) (w : World) (h : x < a ∨ b < x) : Calls Tryd.prog 39 #[.int .i64 x, .int .i64 a, .int .i64 b] w fun e w' => e = .returned (.bool false) ∧ w = w' :=
  (spec_l1In x a b w).mono fun e w' ⟨he, hw⟩ => ⟨he.trans (rB (by rw [Bool.eq_iff_iff]; simp; omega)), hw⟩
theorem spec_l1In_yes (x a b : Int) (w : World) (h : a ≤ x) (h' : x ≤ b) : Calls Tryd.prog 39 #[.int .i64 x, .int .i64 a, .int .i64 b] w fun e w' => e = .returned (.bool true) ∧ w = w' :=
  (spec_l1In x a b w).mono fun e w' ⟨he, hw⟩ => ⟨he.trans (rB (by rw [Bool.eq_iff_iff]; simp; omega)), hw⟩
theorem spec_FixOk (x : Int) (w : World) : Calls Tryd.prog 14 #[.int .i64 x] w fun e w' => e = .returned (.bool (fxOk x)) ∧ w = w' := by
  go_enter Tryd.func14, Tryd.ntmps14
  go_wp2_with (go_at_call 39; refine (spec_l1In _ _ _ _).mono ?_; rintro e w' ⟨rfl, rfl⟩)
  go_ret
  exact ⟨rfl, rfl⟩
theorem impl_FixOk (x : Int) (w : World) : Calls Tryd.prog 32 #[.int .i64 x] w fun e w' => e = .returned (.bool (fxOk x)) ∧ w = w' := by
  go_enter Tryd.func32, Tryd.ntmps32
  go_wp2
  all_goals go_ret
  all_goals exact ⟨rB (by rw [Bool.eq_iff_iff]; simp [fxOk]; omega), rfl⟩
end Go.Proofs.YtgfieeonlhcnhaaDoor
