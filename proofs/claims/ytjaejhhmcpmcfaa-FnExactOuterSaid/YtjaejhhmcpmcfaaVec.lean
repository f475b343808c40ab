/-
  The contracts of the functions on vectors.
-/
import Derived.Test.YtjaejhhmcpmcfaaProg
import Derived.Test.YtjaejhhmcpmcfaaFix
import Derived.Test.YtjaejhhmcpmcfaaPlainV
import Derived.Test.YtjaejhhmcpmcfaaInts
import Derived.WalkKit
import Derived.Deep.QuietTactic
import Derived.BigQuiet
namespace Go.Proofs.Ytjaejhhmcpmcfaa
open Go.RowKit

theorem impl_allFix {B n c : Nat} {A : Option Addr} {xs : List Int} (w : World) (h : RI w B A n c xs) (hn : n ≤ 1048576) :
    Calls Try.prog 66 #[.slice A n c] w fun e w' => e = .returned (.bool (xs.all fxOk)) ∧ w = w' := by
  have hl := hide h.1
  go_enter Try.func66, Try.ntmps66
  go_wp2
  go_loop [7] (fun i => ∃ k : Nat, k ≤ n ∧ i = .int .i64 (k : Int) ∧ Hid (∀ j, j < k → fxOk (xs.getD j 0) = true)) (fun i => n - (intOf i).toNat)
  case atStart => exact ⟨0, Nat.zero_le _, rfl, fun j hj => absurd hj (by omega)⟩
  case round =>
    obtain ⟨k, hk, rfl, hall⟩ := hrel
    by_cases hlt : k < n
    · obtain ⟨b, off, rfl, hbB, hc⟩ := h.at_ hlt
      obtain ⟨x, hx⟩ : ∃ x, x = xs.getD k 0 := ⟨_, rfl⟩
      rw [← hx] at hc
      have HX := hide hx
      clear hx h
      cases hf : fxOk x with
      | true =>
        go_wp2_with (go_at_call 78; refine (impl_FixOk _ _).mono ?_; rintro e w' ⟨rfl, rfl⟩)
        go_round
        case rel => exact ⟨k + 1, by omega, by go_num, fun j hj => by
          by_cases hjk : j < k
          · exact hall.out j hjk
          · obtain rfl : j = k := by omega
            rw [← HX.out]; exact hf⟩
        case measure => simp [intOf]; omega
      | false =>
        go_wp2_with (go_at_call 78; refine (impl_FixOk _ _).mono ?_; rintro e w' ⟨rfl, rfl⟩)
        go_ret
        exact ⟨rB (all_no (by rw [hl.out]; exact hlt) (by rw [← HX.out]; exact hf)).symm, rfl⟩
    · obtain rfl : k = n := by omega
      clear h
      go_wp2
      go_ret
      exact ⟨rB (all_upto hl.out hall.out).symm, rfl⟩
theorem spec_VecOk {B n c : Nat} {A : Option Addr} {xs : List Int} (w : World) (h : RI w B A n c xs) (hn : n ≤ 1048576) :
    Calls Try.prog 56 #[.slice A n c] w fun e w' => e = .returned (.bool (okV xs)) ∧ w = w' := by
  have hl := hide h.1
  go_enter Try.func56, Try.ntmps56
  go_wp2
  go_loop [3] (fun i => ∃ k : Nat, k ≤ n ∧ i = .int .i64 (k : Int) ∧ Hid (∀ j, j < k → fxOk (xs.getD j 0) = true)) (fun i => n - (intOf i).toNat)
  case atStart => exact ⟨0, Nat.zero_le _, rfl, fun j hj => absurd hj (by omega)⟩
  case round =>
    obtain ⟨k, hk, rfl, hall⟩ := hrel
    by_cases hlt : k < n
    · obtain ⟨b, off, rfl, hbB, hc⟩ := h.at_ hlt
      obtain ⟨x, hx⟩ : ∃ x, x = xs.getD k 0 := ⟨_, rfl⟩
      rw [← hx] at hc
      have HX := hide hx
      clear hx h
      cases hf : fxOk x with
      | true =>
        go_wp2_with (go_at_call 65; refine (spec_FixOk _ _).mono ?_; rintro e w' ⟨rfl, rfl⟩)
        go_round
        case rel => exact ⟨k + 1, by omega, by go_num, fun j hj => by
          by_cases hjk : j < k
          · exact hall.out j hjk
          · obtain rfl : j = k := by omega
            rw [← HX.out]; exact hf⟩
        case measure => simp [intOf]; omega
      | false =>
        go_wp2_with (go_at_call 65; refine (spec_FixOk _ _).mono ?_; rintro e w' ⟨rfl, rfl⟩)
        go_ret
        exact ⟨rB (by have := all_no (by rw [hl.out]; exact hlt) (show fxOk (xs.getD k 0) = false from by rw [← HX.out]; exact hf); simp [okV, this]), rfl⟩
    · obtain rfl : k = n := by omega
      clear h
      go_wp2_with (go_at_call 64; refine (spec_l1In _ _ _ _).mono ?_; rintro e w' ⟨rfl, rfl⟩)
      go_ret
      exact ⟨rB (by have := all_upto hl.out hall.out; rw [okV, this, hl.out, Bool.and_true, Bool.eq_iff_iff]; simp; omega), rfl⟩
theorem impl_VecOk {B n c : Nat} {A : Option Addr} {xs : List Int} (w : World) (h : RI w B A n c xs) (hn : n ≤ 1048576) :
    Calls Try.prog 58 #[.slice A n c] w fun e w' => e = .returned (.bool (okV xs)) ∧ w = w' := by
  have hl := hide h.1
  by_cases h1 : 1 ≤ n
  · by_cases h2 : n ≤ 6
    · have h1' : (1 : Int) ≤ (n : Int) := by omega
      have h2' : (n : Int) ≤ 6 := by omega
      go_enter Try.func58, Try.ntmps58
      go_wp2_with (go_at_call 66; refine (impl_allFix _ h hn).mono ?_; rintro e w' ⟨rfl, rfl⟩)
      go_ret
      exact ⟨rB (by simp [okV, hl.out, h1, h2]), rfl⟩
    · have h2' : ¬ (n : Int) ≤ 6 := by omega
      have h1' : (1 : Int) ≤ (n : Int) := by omega
      go_enter Try.func58, Try.ntmps58
      go_wp2_with fail
      go_ret
      exact ⟨rB (by simp [okV, hl.out, h2]), rfl⟩
  · have h1' : ¬ (1 : Int) ≤ (n : Int) := by omega
    go_enter Try.func58, Try.ntmps58
    go_wp2_with fail
    go_ret
    exact ⟨rB (by simp [okV, hl.out, h1]), rfl⟩
end Go.Proofs.Ytjaejhhmcpmcfaa
