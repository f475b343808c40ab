/-
  The statements' own helpers: sameInts, at.
-/
import Derived.Test.YtceeijbnhnpfgaaInts
import Derived.Test.YtceeijbnhnpfgaaDraw
namespace Go.Proofs.Ytceeijbnhnpfgaa
open Go.RowKit
set_option linter.unusedVariables false
theorem laws_sameInts {B n c B' n' c' : Nat} {A A' : Option Addr} {xs ys : List Int} (w : World) (h : RI w B A n c xs) (h' : RI w B' A' n' c' ys) (hn : n ≤ 1048576) (hn' : n' ≤ 1048576) :
    Calls Try.prog 13 #[.slice A n c, .slice A' n' c'] w (Quiet (.bool (decide (xs = ys))) w) := by
  have hl := hide h.1
  have hl' := hide h'.1
  by_cases hne : n = n'
  · subst hne
    go_enter Try.func13, Try.ntmps13
    go_wp2
    go_loopw [5] (fun i wr => ∃ k : Nat, k ≤ n ∧ i = .int .i64 (k : Int) ∧ Hid (∀ j, j < k → xs.getD j 0 = ys.getD j 0) ∧ ∃ m, wr = w.drewN m)
      (fun i _ => n - (intOf i).toNat)
    case atStart => exact ⟨0, Nat.zero_le _, rfl, fun j hj => absurd hj (by omega), 0, rfl⟩
    case round =>
      obtain ⟨k, hk, rfl, heq, m, rfl⟩ := hrel
      by_cases hlt : k < n
      · obtain ⟨b, off, rfl, hbB, hc⟩ := h.at_ hlt
        obtain ⟨b', off', rfl, hbB', hc'⟩ := h'.at_ hlt
        have h1 : (0 : Int) ≤ (k : Int) := by omega
        have h2 : (k : Int) < (n : Int) := by omega
        obtain ⟨x, hx⟩ : ∃ x, x = xs.getD k 0 := ⟨_, rfl⟩
        obtain ⟨y, hy⟩ : ∃ y, y = ys.getD k 0 := ⟨_, rfl⟩
        rw [← hx] at hc
        rw [← hy] at hc'
        have HX := hide hx
        have HY := hide hy
        clear hx hy h h'
        by_cases hxy : x = y
        · have hb : (x != y) = false := by simp [hxy]
          have HXY := hide hxy
          clear hxy
          go_wp2
          go_quiet (fail)
          go_wp2
          go_roundw
          case rel => exact ⟨k + 1, by omega, by go_num, fun j hj => by
            by_cases hjk : j < k
            · exact heq.out j hjk
            · obtain rfl : j = k := by omega
              rw [← HX.out, ← HY.out]; exact HXY.out, _, rfl⟩
          case measure => simp [intOf]; omega
        · have hb : (x != y) = true := by simp [hxy]
          have HXY := hide hxy
          clear hxy
          go_wp2
          go_quiet (fail)
          go_wp2
          go_ret
          exact ⟨rB (eq_upto_no (by rw [← HX.out, ← HY.out]; exact HXY.out)).symm, m + nq, by first | rfl | rw [World.drewN_drewN]⟩
      · obtain rfl : k = n := by omega
        go_wp2
        go_ret
        exact ⟨rB (eq_upto_all hl.out hl'.out heq.out).symm, _, rfl⟩
  · have hd : decide (xs = ys) = false := by
      rw [decide_eq_false_iff_not]; rintro rfl; exact hne (h.1.symm.trans h'.1)
    have hn2 : ((n : Int) != (n' : Int)) = true := by simp; omega
    have HD := hide hd
    clear hd hne
    go_enter Try.func13, Try.ntmps13
    go_wp2
    go_ret
    exact ⟨rB HD.out.symm, 0, rfl⟩
theorem same_yes {B n c B' n' c' : Nat} {A A' : Option Addr} {xs : List Int} (w : World) (h : RI w B A n c xs) (h' : RI w B' A' n' c' xs) (hn : n ≤ 1048576) :
    Calls Try.prog 13 #[.slice A n c, .slice A' n' c'] w (Quiet (.bool true) w) := by
  have := laws_sameInts w h h' hn (by have := h.1; have := h'.1; omega)
  rwa [show decide (xs = xs) = true from by simp] at this
theorem laws_at0 {B n c : Nat} {A : Option Addr} (w : World) (h : BA w B A n c) :
    Calls Try.prog 15 #[.slice A n c, .int .i64 0] w fun e w' => ∃ x, e = .returned (.int .i64 x) ∧ 0 ≤ x ∧ x ≤ 255 ∧ w = w' := by
  by_cases hlt : 0 < n
  · obtain ⟨b, off, x, rfl, hbB, hx0, hx1, hc⟩ := h.at_ hlt
    rw [show off + 0 = off from rfl] at hc
    have hn := h.2.1
    clear h
    go_enter Try.func15, Try.ntmps15
    go_wp2_with fail
    go_ret
    exact ⟨_, rfl, by first | omega | (simp [IntKind.wrap_i64]; omega), by first | omega | (simp [IntKind.wrap_i64]; omega), rfl⟩
  · obtain rfl : n = 0 := by omega
    go_enter Try.func15, Try.ntmps15
    go_wp2_with fail
    go_ret
    exact ⟨_, rfl, by omega, by omega, rfl⟩
end Go.Proofs.Ytceeijbnhnpfgaa
