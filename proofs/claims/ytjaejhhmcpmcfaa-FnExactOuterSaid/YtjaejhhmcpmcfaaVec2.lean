/-
  The contracts of the functions on vectors, part 2.
-/
import Derived.Test.YtjaejhhmcpmcfaaProg
import Derived.Test.YtjaejhhmcpmcfaaVec
import Derived.WalkKit
import Derived.Deep.QuietTactic
import Derived.BigQuiet
namespace Go.Proofs.Ytjaejhhmcpmcfaa
open Go.RowKit

theorem impl_SameVec {B n c B' n' c' : Nat} {A A' : Option Addr} {xs ys : List Int} (w : World) (h : RI w B A n c xs) (h' : RI w B' A' n' c' ys) (hn : n ≤ 1048576) (hn' : n' ≤ 1048576) :
    Calls Try.prog 63 #[.slice A n c, .slice A' n' c'] w (Quiet (.bool (decide (xs = ys))) w) := by
  have hl := hide h.1
  have hl' := hide h'.1
  by_cases hne : n = n'
  · subst hne
    go_enter Try.func63, Try.ntmps63
    go_wp2
    go_loopw [13] (fun i wr => ∃ k : Nat, k ≤ n ∧ i = .int .i64 (k : Int) ∧ Hid (∀ j, j < k → xs.getD j 0 = ys.getD j 0) ∧ ∃ m, wr = w.drewN m)
      (fun i _ => n - (intOf i).toNat)
    case atStart => exact ⟨0, Nat.zero_le _, rfl, fun j hj => absurd hj (by omega), 0, rfl⟩
    case round =>
      obtain ⟨k, hk, rfl, heq, m, rfl⟩ := hrel
      by_cases hlt : k < n
      · obtain ⟨b, off, rfl, hbB, hc⟩ := h.at_ hlt
        obtain ⟨b', off', rfl, hbB', hc'⟩ := h'.at_ hlt
        have h1 : (0 : Int) ≤ (k : Int) := by omega
        have h2 : (k : Int) < (n : Int) := by omega
        obtain ⟨x, hx⟩ : ∃ x, x = xs.getD k 0 := ⟨_, rfl⟩
        obtain ⟨y, hy⟩ : ∃ y, y = ys.getD k 0 := ⟨_, rfl⟩
        rw [← hx] at hc
        rw [← hy] at hc'
        have HX := hide hx
        have HY := hide hy
        clear hx hy h h'
        by_cases hxy : x = y
        · have hb : (x != y) = false := by simp [hxy]
          have HXY := hide hxy
          clear hxy
          go_wp2
          go_quiet (fail)
          go_wp2
          go_roundw
          case rel => exact ⟨k + 1, by omega, by go_num, fun j hj => by
            by_cases hjk : j < k
            · exact heq.out j hjk
            · obtain rfl : j = k := by omega
              rw [← HX.out, ← HY.out]; exact HXY.out, _, rfl⟩
          case measure => simp [intOf]; omega
        · have hb : (x != y) = true := by simp [hxy]
          have HXY := hide hxy
          clear hxy
          go_wp2
          go_quiet (fail)
          go_wp2
          go_ret
          exact ⟨rB (eq_upto_no (by rw [← HX.out, ← HY.out]; exact HXY.out)).symm, m + nq, by first | rfl | rw [World.drewN_drewN]⟩
      · obtain rfl : k = n := by omega
        go_wp2
        go_ret
        exact ⟨rB (eq_upto_all hl.out hl'.out heq.out).symm, _, rfl⟩
  · have hd : decide (xs = ys) = false := by
      rw [decide_eq_false_iff_not]; rintro rfl; exact hne (h.1.symm.trans h'.1)
    have hb : ((n : Int) != (n' : Int)) = true := by simp; omega
    have HD := hide hd
    clear hd hne
    go_enter Try.func63, Try.ntmps63
    go_wp2
    go_ret
    exact ⟨rB HD.out.symm, 0, rfl⟩
theorem spec_SameVec {B n c B' n' c' : Nat} {A A' : Option Addr} {xs ys : List Int} (w : World) (h : RI w B A n c xs) (h' : RI w B' A' n' c' ys) (hn : n ≤ 1048576) (hn' : n' ≤ 1048576) :
    Calls Try.prog 62 #[.slice A n c, .slice A' n' c'] w (Quiet (.bool (decide (xs = ys))) w) := by
  have hl := hide h.1
  have hl' := hide h'.1
  by_cases hne : n = n'
  · subst hne
    go_enter Try.func62, Try.ntmps62
    go_wp2
    go_loopw [5] (fun i wr => ∃ k : Nat, k ≤ n ∧ i = .int .i64 (k : Int) ∧ Hid (∀ j, j < k → xs.getD j 0 = ys.getD j 0) ∧ ∃ m, wr = w.drewN m)
      (fun i _ => n - (intOf i).toNat)
    case atStart => exact ⟨0, Nat.zero_le _, rfl, fun j hj => absurd hj (by omega), 0, rfl⟩
    case round =>
      obtain ⟨k, hk, rfl, heq, m, rfl⟩ := hrel
      by_cases hlt : k < n
      · obtain ⟨b, off, rfl, hbB, hc⟩ := h.at_ hlt
        obtain ⟨b', off', rfl, hbB', hc'⟩ := h'.at_ hlt
        have h1 : (0 : Int) ≤ (k : Int) := by omega
        have h2 : (k : Int) < (n : Int) := by omega
        obtain ⟨x, hx⟩ : ∃ x, x = xs.getD k 0 := ⟨_, rfl⟩
        obtain ⟨y, hy⟩ : ∃ y, y = ys.getD k 0 := ⟨_, rfl⟩
        rw [← hx] at hc
        rw [← hy] at hc'
        have HX := hide hx
        have HY := hide hy
        clear hx hy h h'
        by_cases hxy : x = y
        · have hb : (x != y) = false := by simp [hxy]
          have HXY := hide hxy
          clear hxy
          go_wp2
          go_quiet (fail)
          go_wp2
          go_roundw
          case rel => exact ⟨k + 1, by omega, by go_num, fun j hj => by
            by_cases hjk : j < k
            · exact heq.out j hjk
            · obtain rfl : j = k := by omega
              rw [← HX.out, ← HY.out]; exact HXY.out, _, rfl⟩
          case measure => simp [intOf]; omega
        · have hb : (x != y) = true := by simp [hxy]
          have HXY := hide hxy
          clear hxy
          go_wp2
          go_quiet (fail)
          go_wp2
          go_ret
          exact ⟨rB (eq_upto_no (by rw [← HX.out, ← HY.out]; exact HXY.out)).symm, m + nq, by first | rfl | rw [World.drewN_drewN]⟩
      · obtain rfl : k = n := by omega
        go_wp2
        go_ret
        exact ⟨rB (eq_upto_all hl.out hl'.out heq.out).symm, _, rfl⟩
  · have hd : decide (xs = ys) = false := by
      rw [decide_eq_false_iff_not]; rintro rfl; exact hne (h.1.symm.trans h'.1)
    have hb : ((n : Int) != (n' : Int)) = true := by simp; omega
    have HD := hide hd
    clear hd hne
    go_enter Try.func62, Try.ntmps62
    go_wp2
    go_ret
    exact ⟨rB HD.out.symm, 0, rfl⟩
end Go.Proofs.Ytjaejhhmcpmcfaa
