/-
  The contracts of the functions on matrices.
-/
import Derived.Test.YtjaejhhmcpmcfaaProg
import Derived.Test.YtjaejhhmcpmcfaaPlainM
import Derived.Test.YtjaejhhmcpmcfaaVec2
import Derived.WalkKit
namespace Go.Proofs.Ytjaejhhmcpmcfaa
open Go.RowKit

abbrev mv (r c : Int) (A : Option Addr) (n cap : Nat) : Value := .agg #[.int .i64 r, .int .i64 c, .slice A n cap]

theorem impl_MatOk {B n cap : Nat} {A : Option Addr} {xs : List Int} (r c : Int) (w : World) (h : RI w B A n cap xs) (hB : B ≤ w.heap.size) (hn : n ≤ 1048576) :
    Calls Try.prog 28 #[mv r c A n cap] w fun e w' => e = .returned (.bool (okM r c xs)) ∧ Below w.heap.size w w' := by
  have hl := hide h.1
  have hb : Below w.heap.size w (w.alloc (.cells #[.int .i64 r, .int .i64 c, .slice A n cap] 24)) := (Below.refl _ _).alloc (Nat.le_refl _) _
  by_cases h1 : r < 1
  · go_enter Try.func28, Try.ntmps28
    go_wp2_with fail
    go_ret
    exact ⟨rB (by simp [okM]; omega), hb⟩
  by_cases h2 : 6 < r
  · go_enter Try.func28, Try.ntmps28
    go_wp2_with fail
    go_ret
    exact ⟨rB (by simp [okM]; omega), hb⟩
  by_cases h3 : c < 1
  · go_enter Try.func28, Try.ntmps28
    go_wp2_with fail
    go_ret
    exact ⟨rB (by simp [okM]; omega), hb⟩
  by_cases h4 : 6 < c
  · go_enter Try.func28, Try.ntmps28
    go_wp2_with fail
    go_ret
    exact ⟨rB (by simp [okM]; omega), hb⟩
  obtain ⟨m, hm⟩ : ∃ m, r * c = m := ⟨_, rfl⟩
  have hm1 : 1 ≤ m ∧ m ≤ 36 := hm ▸ mul36 (by omega) (by omega) (by omega) (by omega)
  have hok : okM r c xs = (decide ((n : Int) = m) && xs.all fxOk) := by
    rw [okM, decide_eq_true (show 1 ≤ r by omega), decide_eq_true (show r ≤ 6 by omega), decide_eq_true (show 1 ≤ c by omega), decide_eq_true (show c ≤ 6 by omega), hm, hl.out]; simp
  have HOK := hide hok
  clear hok
  by_cases h5 : (n : Int) = m
  · have h5' : ((n : Int) == m) = true := by simp [h5]
    have H5 := hide h5
    clear h5
    go_enter Try.func28, Try.ntmps28
    go_wp2_with (go_at_call 66; refine (impl_allFix _ (h.below (hb.mono hB)) hn).mono ?_; rintro e w' ⟨rfl, rfl⟩)
    go_ret
    exact ⟨rB (by rw [HOK.out, H5.out]; simp), hb⟩
  · have h5' : ((n : Int) == m) = false := by simp [h5]
    have H5 := hide h5
    clear h5
    go_enter Try.func28, Try.ntmps28
    go_wp2_with fail
    go_ret
    exact ⟨rB (by rw [HOK.out, decide_eq_false H5.out]; simp), hb⟩
theorem spec_MatOk {B n cap : Nat} {A : Option Addr} {xs : List Int} (r c : Int) (w : World) (h : RI w B A n cap xs) (hB : B ≤ w.heap.size) (hn : n ≤ 1048576) :
    Calls Try.prog 27 #[mv r c A n cap] w fun e w' => e = .returned (.bool (okM r c xs)) ∧ Below w.heap.size w w' := by
  have hl := hide h.1
  have hb : Below w.heap.size w (w.alloc (.cells #[.int .i64 r, .int .i64 c, .slice A n cap] 24)) := (Below.refl _ _).alloc (Nat.le_refl _) _
  by_cases h1 : 1 ≤ r ∧ r ≤ 6
  case neg =>
    go_enter Try.func27, Try.ntmps27
    go_wp2_with fail
    refine (spec_l1In_no _ _ _ _ (by omega)).mono ?_
    rintro e w' ⟨rfl, rfl⟩
    go_wp2_with fail
    go_ret
    exact ⟨rB (by simp [okM]; omega), hb⟩
  by_cases h3 : 1 ≤ c ∧ c ≤ 6
  case neg =>
    go_enter Try.func27, Try.ntmps27
    go_wp2_with fail
    refine (spec_l1In_yes _ _ _ _ h1.1 h1.2).mono ?_
    rintro e w' ⟨rfl, rfl⟩
    go_wp2_with fail
    refine (spec_l1In_no _ _ _ _ (by omega)).mono ?_
    rintro e w' ⟨rfl, rfl⟩
    go_wp2_with fail
    go_ret
    exact ⟨rB (by simp [okM]; omega), hb⟩
  obtain ⟨m, hm⟩ : ∃ m, r * c = m := ⟨_, rfl⟩
  have hm1 : 1 ≤ m ∧ m ≤ 36 := hm ▸ mul36 h1.1 h1.2 h3.1 h3.2
  have hok : okM r c xs = (decide ((n : Int) = m) && xs.all fxOk) := by
    rw [okM, decide_eq_true h1.1, decide_eq_true h1.2, decide_eq_true h3.1, decide_eq_true h3.2, hm, hl.out]; simp
  have HOK := hide hok
  clear hok
  by_cases h5 : (n : Int) = m
  · have h5' : ((n : Int) != m) = false := by simp [h5]
    have H5 := hide h5
    have hn36 : n ≤ 36 := by omega
    clear h5
    go_enter Try.func27, Try.ntmps27
    go_wp2_with fail
    refine (spec_l1In_yes _ _ _ _ h1.1 h1.2).mono ?_
    rintro e w' ⟨rfl, rfl⟩
    go_wp2_with fail
    refine (spec_l1In_yes _ _ _ _ h3.1 h3.2).mono ?_
    rintro e w' ⟨rfl, rfl⟩
    go_wp2_with fail
    go_loop [3] (fun i => ∃ k : Nat, k ≤ n ∧ i = .int .i64 (k : Int) ∧ Hid (∀ j, j < k → fxOk (xs.getD j 0) = true)) (fun i => n - (intOf i).toNat)
    case atStart => exact ⟨0, Nat.zero_le _, rfl, fun j hj => absurd hj (by omega)⟩
    case round =>
      obtain ⟨k, hk, rfl, hall⟩ := hrel
      by_cases hlt : k < n
      · obtain ⟨b, off, rfl, hbB, hc⟩ := h.at_ hlt
        obtain ⟨x, hx⟩ : ∃ x, x = xs.getD k 0 := ⟨_, rfl⟩
        rw [← hx] at hc
        have HX := hide hx
        have hcx := RI.cellIn hc hb hbB hB
        clear hx h hc
        cases hf : fxOk x with
        | true =>
          go_wp2_with (go_at_call 65; refine (spec_FixOk _ _).mono ?_; rintro e w' ⟨rfl, rfl⟩)
          go_round
          case rel => exact ⟨k + 1, by omega, by go_num, fun j hj => by
            by_cases hjk : j < k
            · exact hall.out j hjk
            · obtain rfl : j = k := by omega
              rw [← HX.out]; exact hf⟩
          case measure => simp [intOf]; omega
        | false =>
          go_wp2_with (go_at_call 65; refine (spec_FixOk _ _).mono ?_; rintro e w' ⟨rfl, rfl⟩)
          go_ret
          exact ⟨rB (by have := all_no (by rw [hl.out]; exact hlt) (show fxOk (xs.getD k 0) = false from by rw [← HX.out]; exact hf); rw [HOK.out, this]; simp), hb⟩
      · obtain rfl : k = n := by omega
        clear h
        go_wp2_with fail
        go_ret
        exact ⟨rB (by have := all_upto hl.out hall.out; rw [HOK.out, this, decide_eq_true H5.out]; rfl), hb⟩
  · have h5' : ((n : Int) != m) = true := by simp [h5]
    have H5 := hide h5
    clear h5
    go_enter Try.func27, Try.ntmps27
    go_wp2_with fail
    refine (spec_l1In_yes _ _ _ _ h1.1 h1.2).mono ?_
    rintro e w' ⟨rfl, rfl⟩
    go_wp2_with fail
    refine (spec_l1In_yes _ _ _ _ h3.1 h3.2).mono ?_
    rintro e w' ⟨rfl, rfl⟩
    go_wp2_with fail
    go_ret
    exact ⟨rB (by rw [HOK.out, decide_eq_false H5.out]; simp), hb⟩
/-- a row of a matrix, as a slice of its numbers -/
theorem RI.row {w : World} {B n cap : Nat} {A : Option Addr} {xs : List Int} {R C k : Nat} (h : RI w B A n cap xs) (hx : xs.length = R * C) (hk : k < R) (hC : 1 ≤ C) :
    ∃ b off, A = some ⟨b, off, none⟩ ∧ b < B ∧ (k + 1) * C ≤ n ∧ n ≤ cap ∧ k * C + C = (k + 1) * C ∧ RI w B (some ⟨b, off + k * C, none⟩) C (cap - k * C) (rowK C xs k) := by
  have h1 : (k + 1) * C ≤ R * C := Nat.mul_le_mul_right C hk
  have h2 : (k + 1) * C = k * C + C := Nat.succ_mul k C
  obtain ⟨b, off, hA, hb, hc⟩ := h.2.2 (by have := h.1; omega)
  have hl := h.1
  refine ⟨b, off, hA, hb, by omega, h.2.1, h2.symm, rowK_len hx hk, by have := h.2.1; omega, fun _ => ⟨b, off + k * C, rfl, hb, fun j hj => ?_⟩⟩
  rw [Nat.add_assoc, hc (k * C + j) (by omega), rowK_get j hj]
end Go.Proofs.Ytjaejhhmcpmcfaa
