/-
  The contracts of the fixed-point functions of the program and of the reference.
-/
import Derived.Test.YtehfglfbnjdcoaaProg
import Derived.Test.YtehfglfbnjdcoaaPlainA
import Derived.WalkKit
namespace Go.Proofs.Ytehfglfbnjdcoaa
open Go.RowKit
set_option maxRecDepth 100000

theorem spec_l1In (x a b : Int) (w : World) : Calls Try.prog 115 #[.int .i64 x, .int .i64 a, .int .i64 b] w fun e w' => e = .returned (.bool (decide (a ≤ x) && decide (x ≤ b))) ∧ w = w' := by
  go_enter Try.func115, Try.ntmps115
  go_wp2
  all_goals go_ret
  all_goals exact ⟨rB (by rw [Bool.eq_iff_iff]; simp; omega), rfl⟩
theorem spec_l1In_no (x a b : Int) (w : World) (h : x < a ∨ b < x) : Calls Try.prog 115 #[.int .i64 x, .int .i64 a, .int .i64 b] w fun e w' => e = .returned (.bool false) ∧ w = w' :=
  (spec_l1In x a b w).mono fun e w' ⟨he, hw⟩ => ⟨he.trans (rB (by rw [Bool.eq_iff_iff]; simp; omega)), hw⟩
theorem spec_l1In_yes (x a b : Int) (w : World) (h : a ≤ x) (h' : x ≤ b) : Calls Try.prog 115 #[.int .i64 x, .int .i64 a, .int .i64 b] w fun e w' => e = .returned (.bool true) ∧ w = w' :=
  (spec_l1In x a b w).mono fun e w' ⟨he, hw⟩ => ⟨he.trans (rB (by rw [Bool.eq_iff_iff]; simp; omega)), hw⟩
theorem spec_FixOk (x : Int) (w : World) : Calls Try.prog 125 #[.int .i64 x] w fun e w' => e = .returned (.bool (fxOk x)) ∧ w = w' := by
  go_enter Try.func125, Try.ntmps125
  go_wp2_with (go_at_call 115; refine (spec_l1In _ _ _ _).mono ?_; rintro e w' ⟨rfl, rfl⟩)
  go_ret
  exact ⟨rfl, rfl⟩
theorem impl_FixOk (x : Int) (w : World) : Calls Try.prog 139 #[.int .i64 x] w fun e w' => e = .returned (.bool (fxOk x)) ∧ w = w' := by
  go_enter Try.func139, Try.ntmps139
  go_wp2
  all_goals go_ret
  all_goals exact ⟨rB (by rw [Bool.eq_iff_iff]; simp [fxOk]; omega), rfl⟩
theorem impl_clamp (x : Int) (w : World) : Calls Try.prog 149 #[.int .i64 x] w fun e w' => e = .returned (.int .i64 (clp x)) ∧ w = w' := by
  go_enter Try.func149, Try.ntmps149
  go_wp2
  all_goals go_ret
  all_goals exact ⟨rI (by unfold clp; (repeat' split) <;> omega), rfl⟩
theorem impl_settle (x : Int) (w : World) : Calls Try.prog 148 #[.int .i64 x] w fun e w' => e = .returned (.tuple #[.int .i64 (clp x), .bool (sat x)]) ∧ w = w' := by
  have hs : (!fxOk x) = sat x := by simp [fxOk, sat, ← Int.not_lt]
  have H := hide hs
  clear hs
  go_enter Try.func148, Try.ntmps148
  go_wp2_with (first
    | (go_at_call 149; refine (impl_clamp _ _).mono ?_; rintro e w' ⟨rfl, rfl⟩)
    | (go_at_call 139; refine (impl_FixOk _ _).mono ?_; rintro e w' ⟨rfl, rfl⟩))
  go_ret2
  exact ⟨rIB rfl H.out, rfl⟩
theorem spec_l2Sat (x : Int) (w : World) : Calls Try.prog 145 #[.int .i64 x] w fun e w' => e = .returned (.tuple #[.int .i64 (clp x), .bool (sat x)]) ∧ w = w' := by
  go_enter Try.func145, Try.ntmps145
  go_wp2
  all_goals go_ret2
  all_goals refine ⟨?_, rfl⟩
  all_goals simp [clp, sat]; try omega
theorem spec_l2In (x : Int) (w : World) : Calls Try.prog 146 #[.int .i64 x] w fun e w' => e = .returned (.int .i64 (clp x)) ∧ w = w' := by
  go_enter Try.func146, Try.ntmps146
  go_wp2_with (go_at_call 145; refine (spec_l2Sat _ _).mono ?_; rintro e w' ⟨rfl, rfl⟩)
  go_ret
  exact ⟨rfl, rfl⟩
theorem spec_FixAdd (a b : Int) (w : World) : Calls Try.prog 110 #[.int .i64 a, .int .i64 b] w fun e w' => e = .returned (.tuple #[.int .i64 (fxAdd a b), .bool (fxAddS a b)]) ∧ w = w' := by
  have h1 := clp_lo a
  have h2 := clp_hi a
  have h3 := clp_lo b
  have h4 := clp_hi b
  go_enter Try.func110, Try.ntmps110
  go_wp2_with (first | (go_at_call 146; refine (spec_l2In _ _).mono ?_; rintro e w' ⟨rfl, rfl⟩) | (go_at_call 145; refine (spec_l2Sat _ _).mono ?_; rintro e w' ⟨rfl, rfl⟩))
  go_ret2
  exact ⟨rfl, rfl⟩
theorem impl_FixAdd (a b : Int) (w : World) : Calls Try.prog 112 #[.int .i64 a, .int .i64 b] w fun e w' => e = .returned (.tuple #[.int .i64 (fxAdd a b), .bool (fxAddS a b)]) ∧ w = w' := by
  have h1 := clp_lo a
  have h2 := clp_hi a
  have h3 := clp_lo b
  have h4 := clp_hi b
  go_enter Try.func112, Try.ntmps112
  go_wp2_with (first | (go_at_call 149; refine (impl_clamp _ _).mono ?_; rintro e w' ⟨rfl, rfl⟩) | (go_at_call 148; refine (impl_settle _ _).mono ?_; rintro e w' ⟨rfl, rfl⟩))
  go_ret2
  exact ⟨rfl, rfl⟩
theorem spec_FixSub (a b : Int) (w : World) : Calls Try.prog 129 #[.int .i64 a, .int .i64 b] w fun e w' => e = .returned (.tuple #[.int .i64 (fxSub a b), .bool (fxSubS a b)]) ∧ w = w' := by
  have h1 := clp_lo a
  have h2 := clp_hi a
  have h3 := clp_lo b
  have h4 := clp_hi b
  go_enter Try.func129, Try.ntmps129
  go_wp2_with (first | (go_at_call 146; refine (spec_l2In _ _).mono ?_; rintro e w' ⟨rfl, rfl⟩) | (go_at_call 145; refine (spec_l2Sat _ _).mono ?_; rintro e w' ⟨rfl, rfl⟩))
  go_ret2
  exact ⟨rfl, rfl⟩
theorem impl_FixSub (a b : Int) (w : World) : Calls Try.prog 131 #[.int .i64 a, .int .i64 b] w fun e w' => e = .returned (.tuple #[.int .i64 (fxSub a b), .bool (fxSubS a b)]) ∧ w = w' := by
  have h1 := clp_lo a
  have h2 := clp_hi a
  have h3 := clp_lo b
  have h4 := clp_hi b
  go_enter Try.func131, Try.ntmps131
  go_wp2_with (first | (go_at_call 149; refine (impl_clamp _ _).mono ?_; rintro e w' ⟨rfl, rfl⟩) | (go_at_call 148; refine (impl_settle _ _).mono ?_; rintro e w' ⟨rfl, rfl⟩))
  go_ret2
  exact ⟨rfl, rfl⟩
theorem spec_l2Floor (a : Int) (w : World) (h1 : -4611686014132420609 ≤ a) (h2 : a ≤ 4611686014132420609) : Calls Try.prog 157 #[.int .i64 a, .int .i64 65536] w fun e w' => e = .returned (.int .i64 (a / 65536)) ∧ w = w' := by
  go_enter Try.func157, Try.ntmps157
  go_wp2
  · have h := ‹a.tmod 65536 = 0›
    go_ret
    exact ⟨rI (flo1 a h), rfl⟩
  · have h := ‹(a.tmod 65536 != 0) = true ∧ a < 0›
    go_ret
    exact ⟨rI (flo2 a h1 ‹_› h.2), rfl⟩
  · have h := ‹(a.tmod 65536 != 0) = false ∨ 0 ≤ a›
    have h0 : 0 ≤ a := by
      rcases h with h | h
      · simp at h; contradiction
      · exact h
    go_ret
    exact ⟨rI (flo3 a h0), rfl⟩
theorem spec_FixMul (a b : Int) (w : World) : Calls Try.prog 135 #[.int .i64 a, .int .i64 b] w fun e w' => e = .returned (.tuple #[.int .i64 (fxMul a b), .bool (fxMulS a b)]) ∧ w = w' := by
  have h1 := (clp_mul_bd a b).1
  have h2 := (clp_mul_bd a b).2
  go_enter Try.func135, Try.ntmps135
  go_wp2_with (first | (go_at_call 146; refine (spec_l2In _ _).mono ?_; rintro e w' ⟨rfl, rfl⟩) | (go_at_call 157; refine (spec_l2Floor _ _ h1 h2).mono ?_; rintro e w' ⟨rfl, rfl⟩) | (go_at_call 145; refine (spec_l2Sat _ _).mono ?_; rintro e w' ⟨rfl, rfl⟩))
  go_ret2
  exact ⟨rfl, rfl⟩
theorem impl_FixMul (a b : Int) (w : World) : Calls Try.prog 140 #[.int .i64 a, .int .i64 b] w fun e w' => e = .returned (.tuple #[.int .i64 (fxMul a b), .bool (fxMulS a b)]) ∧ w = w' := by
  have h1 := (clp_mul_bd a b).1
  have h2 := (clp_mul_bd a b).2
  go_enter Try.func140, Try.ntmps140
  go_wp2_with (first | (go_at_call 149; refine (impl_clamp _ _).mono ?_; rintro e w' ⟨rfl, rfl⟩) | (go_at_call 148; refine (impl_settle _ _).mono ?_; rintro e w' ⟨rfl, rfl⟩))
  go_ret2
  exact ⟨rfl, rfl⟩
theorem spec_Relu (a : Int) (w : World) : Calls Try.prog 134 #[.int .i64 a] w fun e w' => e = .returned (.int .i64 (fxRelu a)) ∧ w = w' := by
  go_enter Try.func134, Try.ntmps134
  go_wp2_with (go_at_call 146; refine (spec_l2In _ _).mono ?_; rintro e w' ⟨rfl, rfl⟩)
  all_goals go_ret
  all_goals exact ⟨rI (by unfold fxRelu; (repeat' split) <;> omega), rfl⟩
theorem impl_Relu (a : Int) (w : World) : Calls Try.prog 141 #[.int .i64 a] w fun e w' => e = .returned (.int .i64 (fxRelu a)) ∧ w = w' := by
  go_enter Try.func141, Try.ntmps141
  go_wp2_with (go_at_call 149; refine (impl_clamp _ _).mono ?_; rintro e w' ⟨rfl, rfl⟩)
  all_goals go_ret
  all_goals exact ⟨rI (by unfold fxRelu; (repeat' split) <;> omega), rfl⟩
end Go.Proofs.Ytehfglfbnjdcoaa
