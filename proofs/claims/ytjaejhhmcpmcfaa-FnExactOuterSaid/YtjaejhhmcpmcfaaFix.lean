/-
  The contracts of the fixed-point functions of the program and of the reference.
-/
import Derived.Test.YtjaejhhmcpmcfaaProg
import Derived.Test.YtjaejhhmcpmcfaaPlainA
import Derived.WalkKit
namespace Go.Proofs.Ytjaejhhmcpmcfaa
open Go.RowKit

theorem spec_l1In (x a b : Int) (w : World) : Calls Try.prog 64 #[.int .i64 x, .int .i64 a, .int .i64 b] w fun e w' => e = .returned (.bool (decide (a ≤ x) && decide (x ≤ b))) ∧ w = w' := by
  go_enter Try.func64, Try.ntmps64
  go_wp2
  all_goals go_ret
  all_goals exact ⟨rB (by rw [Bool.eq_iff_iff]; simp; omega), rfl⟩
theorem spec_l1In_no (x a b : Int) (w : World) (h : x < a ∨ b < x) : Calls Try.prog 64 #[.int .i64 x, .int .i64 a, .int .i64 b] w fun e w' => e = .returned (.bool false) ∧ w = w' :=
  (spec_l1In x a b w).mono fun e w' ⟨he, hw⟩ => ⟨he.trans (rB (by rw [Bool.eq_iff_iff]; simp; omega)), hw⟩
theorem spec_l1In_yes (x a b : Int) (w : World) (h : a ≤ x) (h' : x ≤ b) : Calls Try.prog 64 #[.int .i64 x, .int .i64 a, .int .i64 b] w fun e w' => e = .returned (.bool true) ∧ w = w' :=
  (spec_l1In x a b w).mono fun e w' ⟨he, hw⟩ => ⟨he.trans (rB (by rw [Bool.eq_iff_iff]; simp; omega)), hw⟩
theorem spec_FixOk (x : Int) (w : World) : Calls Try.prog 65 #[.int .i64 x] w fun e w' => e = .returned (.bool (fxOk x)) ∧ w = w' := by
  go_enter Try.func65, Try.ntmps65
  go_wp2_with (go_at_call 64; refine (spec_l1In _ _ _ _).mono ?_; rintro e w' ⟨rfl, rfl⟩)
  go_ret
  exact ⟨rfl, rfl⟩
theorem impl_FixOk (x : Int) (w : World) : Calls Try.prog 78 #[.int .i64 x] w fun e w' => e = .returned (.bool (fxOk x)) ∧ w = w' := by
  go_enter Try.func78, Try.ntmps78
  go_wp2
  all_goals go_ret
  all_goals exact ⟨rB (by rw [Bool.eq_iff_iff]; simp [fxOk]; omega), rfl⟩
theorem impl_clamp (x : Int) (w : World) : Calls Try.prog 77 #[.int .i64 x] w fun e w' => e = .returned (.int .i64 (clp x)) ∧ w = w' := by
  go_enter Try.func77, Try.ntmps77
  go_wp2
  all_goals go_ret
  all_goals exact ⟨rI (by unfold clp; (repeat' split) <;> omega), rfl⟩
theorem impl_settle (x : Int) (w : World) : Calls Try.prog 76 #[.int .i64 x] w fun e w' => e = .returned (.tuple #[.int .i64 (clp x), .bool (sat x)]) ∧ w = w' := by
  have hs : (!fxOk x) = sat x := by simp [fxOk, sat, ← Int.not_lt]
  have H := hide hs
  clear hs
  go_enter Try.func76, Try.ntmps76
  go_wp2_with (first
    | (go_at_call 77; refine (impl_clamp _ _).mono ?_; rintro e w' ⟨rfl, rfl⟩)
    | (go_at_call 78; refine (impl_FixOk _ _).mono ?_; rintro e w' ⟨rfl, rfl⟩))
  go_ret2
  exact ⟨rIB rfl H.out, rfl⟩
theorem spec_l2Sat (x : Int) (w : World) : Calls Try.prog 73 #[.int .i64 x] w fun e w' => e = .returned (.tuple #[.int .i64 (clp x), .bool (sat x)]) ∧ w = w' := by
  go_enter Try.func73, Try.ntmps73
  go_wp2
  all_goals go_ret2
  all_goals refine ⟨?_, rfl⟩
  all_goals simp [clp, sat]; try omega
theorem spec_l2In (x : Int) (w : World) : Calls Try.prog 75 #[.int .i64 x] w fun e w' => e = .returned (.int .i64 (clp x)) ∧ w = w' := by
  go_enter Try.func75, Try.ntmps75
  go_wp2_with (go_at_call 73; refine (spec_l2Sat _ _).mono ?_; rintro e w' ⟨rfl, rfl⟩)
  go_ret
  exact ⟨rfl, rfl⟩
theorem spec_l2Floor (a : Int) (w : World) (h1 : -4611686014132420609 ≤ a) (h2 : a ≤ 4611686014132420609) : Calls Try.prog 74 #[.int .i64 a, .int .i64 65536] w fun e w' => e = .returned (.int .i64 (a / 65536)) ∧ w = w' := by
  go_enter Try.func74, Try.ntmps74
  go_wp2
  · have h := ‹a.tmod 65536 = 0›
    go_ret
    exact ⟨rI (flo1 a h), rfl⟩
  · have h := ‹(a.tmod 65536 != 0) = true ∧ a < 0›
    go_ret
    exact ⟨rI (flo2 a h1 ‹_› h.2), rfl⟩
  · have h := ‹(a.tmod 65536 != 0) = false ∨ 0 ≤ a›
    have h0 : 0 ≤ a := by
      rcases h with h | h
      · simp at h; contradiction
      · exact h
    go_ret
    exact ⟨rI (flo3 a h0), rfl⟩
theorem spec_FixMul (a b : Int) (w : World) : Calls Try.prog 57 #[.int .i64 a, .int .i64 b] w fun e w' => e = .returned (.tuple #[.int .i64 (fxMul a b), .bool (fxMulS a b)]) ∧ w = w' := by
  have h1 := (clp_mul_bd a b).1
  have h2 := (clp_mul_bd a b).2
  go_enter Try.func57, Try.ntmps57
  go_wp2_with (first | (go_at_call 75; refine (spec_l2In _ _).mono ?_; rintro e w' ⟨rfl, rfl⟩) | (go_at_call 74; refine (spec_l2Floor _ _ h1 h2).mono ?_; rintro e w' ⟨rfl, rfl⟩) | (go_at_call 73; refine (spec_l2Sat _ _).mono ?_; rintro e w' ⟨rfl, rfl⟩))
  go_ret2
  exact ⟨rfl, rfl⟩
theorem impl_FixMul (a b : Int) (w : World) : Calls Try.prog 59 #[.int .i64 a, .int .i64 b] w fun e w' => e = .returned (.tuple #[.int .i64 (fxMul a b), .bool (fxMulS a b)]) ∧ w = w' := by
  have h1 := (clp_mul_bd a b).1
  have h2 := (clp_mul_bd a b).2
  go_enter Try.func59, Try.ntmps59
  go_wp2_with (first | (go_at_call 77; refine (impl_clamp _ _).mono ?_; rintro e w' ⟨rfl, rfl⟩) | (go_at_call 76; refine (impl_settle _ _).mono ?_; rintro e w' ⟨rfl, rfl⟩))
  go_ret2
  exact ⟨rfl, rfl⟩
end Go.Proofs.Ytjaejhhmcpmcfaa
