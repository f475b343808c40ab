/-
  The contracts of the fixed-point functions of the program and of the reference.
-/
import Derived.Test.YtceeijbnhnpfgaaProg
import Derived.Test.YtceeijbnhnpfgaaPlainA
import Derived.WalkKit
namespace Go.Proofs.Ytceeijbnhnpfgaa
open Go.RowKit

theorem spec_l1In (x a b : Int) (w : World) : Calls Try.prog 38 #[.int .i64 x, .int .i64 a, .int .i64 b] w fun e w' => e = .returned (.bool (decide (a ≤ x) && decide (x ≤ b))) ∧ w = w' := by
  go_enter Try.func38, Try.ntmps38
  go_wp2
  all_goals go_ret
  all_goals exact ⟨rB (by rw [Bool.eq_iff_iff]; simp; omega), rfl⟩
theorem spec_l1In_no (x a b : Int) (w : World) (h : x < a ∨ b < x) : Calls Try.prog 38 #[.int .i64 x, .int .i64 a, .int .i64 b] w fun e w' => e = .returned (.bool false) ∧ w = w' :=
  (spec_l1In x a b w).mono fun e w' ⟨he, hw⟩ => ⟨he.trans (rB (by rw [Bool.eq_iff_iff]; simp; omega)), hw⟩
theorem spec_l1In_yes (x a b : Int) (w : World) (h : a ≤ x) (h' : x ≤ b) : Calls Try.prog 38 #[.int .i64 x, .int .i64 a, .int .i64 b] w fun e w' => e = .returned (.bool true) ∧ w = w' :=
  (spec_l1In x a b w).mono fun e w' ⟨he, hw⟩ => ⟨he.trans (rB (by rw [Bool.eq_iff_iff]; simp; omega)), hw⟩
theorem spec_FixOk (x : Int) (w : World) : Calls Try.prog 37 #[.int .i64 x] w fun e w' => e = .returned (.bool (fxOk x)) ∧ w = w' := by
  go_enter Try.func37, Try.ntmps37
  go_wp2_with (go_at_call 38; refine (spec_l1In _ _ _ _).mono ?_; rintro e w' ⟨rfl, rfl⟩)
  go_ret
  exact ⟨rfl, rfl⟩
theorem impl_FixOk (x : Int) (w : World) : Calls Try.prog 62 #[.int .i64 x] w fun e w' => e = .returned (.bool (fxOk x)) ∧ w = w' := by
  go_enter Try.func62, Try.ntmps62
  go_wp2
  all_goals go_ret
  all_goals exact ⟨rB (by rw [Bool.eq_iff_iff]; simp [fxOk]; omega), rfl⟩
theorem impl_clamp (x : Int) (w : World) : Calls Try.prog 55 #[.int .i64 x] w fun e w' => e = .returned (.int .i64 (clp x)) ∧ w = w' := by
  go_enter Try.func55, Try.ntmps55
  go_wp2
  all_goals go_ret
  all_goals exact ⟨rI (by unfold clp; (repeat' split) <;> omega), rfl⟩
theorem impl_settle (x : Int) (w : World) : Calls Try.prog 54 #[.int .i64 x] w fun e w' => e = .returned (.tuple #[.int .i64 (clp x), .bool (sat x)]) ∧ w = w' := by
  have hs : (!fxOk x) = sat x := by simp [fxOk, sat, ← Int.not_lt]
  have H := hide hs
  clear hs
  go_enter Try.func54, Try.ntmps54
  go_wp2_with (first
    | (go_at_call 55; refine (impl_clamp _ _).mono ?_; rintro e w' ⟨rfl, rfl⟩)
    | (go_at_call 62; refine (impl_FixOk _ _).mono ?_; rintro e w' ⟨rfl, rfl⟩))
  go_ret2
  exact ⟨rIB rfl H.out, rfl⟩
theorem spec_l2Sat (x : Int) (w : World) : Calls Try.prog 39 #[.int .i64 x] w fun e w' => e = .returned (.tuple #[.int .i64 (clp x), .bool (sat x)]) ∧ w = w' := by
  go_enter Try.func39, Try.ntmps39
  go_wp2
  all_goals go_ret2
  all_goals refine ⟨?_, rfl⟩
  all_goals simp [clp, sat]; try omega
theorem spec_l2In (x : Int) (w : World) : Calls Try.prog 40 #[.int .i64 x] w fun e w' => e = .returned (.int .i64 (clp x)) ∧ w = w' := by
  go_enter Try.func40, Try.ntmps40
  go_wp2_with (go_at_call 39; refine (spec_l2Sat _ _).mono ?_; rintro e w' ⟨rfl, rfl⟩)
  go_ret
  exact ⟨rfl, rfl⟩
theorem spec_FixAdd (a b : Int) (w : World) : Calls Try.prog 14 #[.int .i64 a, .int .i64 b] w fun e w' => e = .returned (.tuple #[.int .i64 (fxAdd a b), .bool (fxAddS a b)]) ∧ w = w' := by
  have h1 := clp_lo a
  have h2 := clp_hi a
  have h3 := clp_lo b
  have h4 := clp_hi b
  go_enter Try.func14, Try.ntmps14
  go_wp2_with (first | (go_at_call 40; refine (spec_l2In _ _).mono ?_; rintro e w' ⟨rfl, rfl⟩) | (go_at_call 39; refine (spec_l2Sat _ _).mono ?_; rintro e w' ⟨rfl, rfl⟩))
  go_ret2
  exact ⟨rfl, rfl⟩
theorem impl_FixAdd (a b : Int) (w : World) : Calls Try.prog 34 #[.int .i64 a, .int .i64 b] w fun e w' => e = .returned (.tuple #[.int .i64 (fxAdd a b), .bool (fxAddS a b)]) ∧ w = w' := by
  have h1 := clp_lo a
  have h2 := clp_hi a
  have h3 := clp_lo b
  have h4 := clp_hi b
  go_enter Try.func34, Try.ntmps34
  go_wp2_with (first | (go_at_call 55; refine (impl_clamp _ _).mono ?_; rintro e w' ⟨rfl, rfl⟩) | (go_at_call 54; refine (impl_settle _ _).mono ?_; rintro e w' ⟨rfl, rfl⟩))
  go_ret2
  exact ⟨rfl, rfl⟩
theorem impl_FixMul (a b : Int) (w : World) : Calls Try.prog 41 #[.int .i64 a, .int .i64 b] w fun e w' => e = .returned (.tuple #[.int .i64 (fxMul a b), .bool (fxMulS a b)]) ∧ w = w' := by
  have h1 := (clp_mul_bd a b).1
  have h2 := (clp_mul_bd a b).2
  go_enter Try.func41, Try.ntmps41
  go_wp2_with (first | (go_at_call 55; refine (impl_clamp _ _).mono ?_; rintro e w' ⟨rfl, rfl⟩) | (go_at_call 54; refine (impl_settle _ _).mono ?_; rintro e w' ⟨rfl, rfl⟩))
  go_ret2
  exact ⟨rfl, rfl⟩
theorem impl_Relu (a : Int) (w : World) : Calls Try.prog 36 #[.int .i64 a] w fun e w' => e = .returned (.int .i64 (fxRelu a)) ∧ w = w' := by
  go_enter Try.func36, Try.ntmps36
  go_wp2_with (go_at_call 55; refine (impl_clamp _ _).mono ?_; rintro e w' ⟨rfl, rfl⟩)
  all_goals go_ret
  all_goals exact ⟨rI (by unfold fxRelu; (repeat' split) <;> omega), rfl⟩
end Go.Proofs.Ytceeijbnhnpfgaa
