/-
  The contracts of SameRows.
-/
import Derived.Test.YtehfglfbnjdcoaaRowS
import Derived.Test.YtehfglfbnjdcoaaVec2
import Derived.WalkKit
import Derived.BigQuiet
import Derived.Lib.QuietBelow
namespace Go.Proofs.Ytehfglfbnjdcoaa
open Go.RowKit Go.Sort
set_option maxRecDepth 100000

set_option maxHeartbeats 1000000 in
theorem impl_SameRows {B n c B' n' c' : Nat} {A A' : Option Addr} {xs ys : List (List Int)} (w : World) (h : RL 1 w B A n c (xs.flatMap rowF)) (h' : RL 1 w B' A' n' c' (ys.flatMap rowF)) (hB : B ≤ w.heap.size) (hB' : B' ≤ w.heap.size) (hn : n ≤ 1048576) (hn' : n' ≤ 1048576) (hsm : SmR xs) (hsm' : SmR ys) :
    Calls Try.prog 114 #[.slice A n c, .slice A' n' c'] w fun e w' => e = .returned (.bool (decide (xs = ys))) ∧ Below w.heap.size w w' := by
  have hl := hide (h.row rowF_len (by omega))
  have hl' := hide (h'.row rowF_len (by omega))
  have HSM := hide hsm
  have HSM' := hide hsm'
  clear hsm hsm'
  by_cases hnn : n = n'
  case neg =>
    have hne : ((n : Int) != (n' : Int)) = true := by simp; omega
    have HF := hide (show decide (xs = ys) = false from by rw [decide_eq_false_iff_not]; rintro rfl; exact hnn (by rw [← hl.out, ← hl'.out]))
    clear hnn h h'
    go_enter Try.func114, Try.ntmps114
    go_wp2
    go_ret
    exact ⟨rB HF.out.symm, Below.refl _ _⟩
  subst hnn
  go_enter Try.func114, Try.ntmps114
  go_wp2
  go_loopw [13] (fun i wr => ∃ k : Nat, k ≤ n ∧ i = .int .i64 (k : Int) ∧ Hid (∀ j, j < k → xs[j]? = ys[j]?) ∧ Below w.heap.size w wr)
    (fun i _ => n - (intOf i).toNat)
  case atStart => exact ⟨0, Nat.zero_le _, rfl, fun j hj => absurd hj (by omega), Below.refl _ _⟩
  case round =>
    obtain ⟨k, hk, rfl, hall, hb⟩ := hrel
    have hsz := hb.size
    by_cases hlt : k < n
    · obtain ⟨b, off, d, A1, n1, c1, rfl, hbB, hd, e0, hR⟩ := h.rowAt hlt
      obtain ⟨b2, off2, d2, A2, n2, c2, rfl, hbB2, hd2, g0, hR2⟩ := h'.rowAt hlt
      have hbw : b < w.heap.size := by omega
      have hbw2 : b2 < w.heap.size := by omega
      have h1 : (0 : Int) ≤ (k : Int) := by omega
      have h2 : (k : Int) < (n : Int) := by omega
      have y0 := cell_regrown ((hb.cell (p := ⟨b, off + k, none⟩) hbw).trans e0)
      have z0 := cell_regrown ((hb.cell (p := ⟨b2, off2 + k, none⟩) hbw2).trans g0)
      have HR1 := hR.below (hb.mono hB)
      have HR2 := hR2.below (hb.mono hB')
      have hm1 := HSM.out k d hd
      have hm2 := HSM'.out k d2 hd2
      rw [hR.1] at hm1
      rw [hR2.1] at hm2
      obtain ⟨q, hq⟩ : ∃ q, decide (d = d2) = q := ⟨_, rfl⟩
      have cE : ∀ d1 os, Calls Try.prog 151 #[.slice A1 n1 c1, .slice A2 n2 c2] (grow (redrawn wr d1) os) fun e w'' => e = .returned (.bool q) ∧ ∃ p : Regrown, w'' = grow (redrawn wr p.d) p.os :=
        fun d1 os => Calls.regrown_of ((impl_SameVec _ (HR1.below ((below_regrown wr d1 os).mono (by omega))) (HR2.below ((below_regrown wr d1 os).mono (by omega))) hm1 hm2).mono fun e w' hh => ⟨hh.below.1.trans (rB hq), hh.below.2⟩)
      have CE := hide cE
      have HQ := hide hq
      have HD := hide hd
      have HD2 := hide hd2
      clear cE e0 g0 h h' hR hR2 hd hd2 HR1 HR2 hq hm1 hm2
      cases q with
      | true =>
        go_wp2_with fail
        refine wp_region_quiet_below (by kernel_rfl) (by kernel_rfl) ?_
        repeat (go_big_quiet_step (first | with_reducible exact CE.out _ _))
        refine wpQuiet_nil ?_
        intro _ hw'
        obtain ⟨⟨dq, osq⟩, hw''⟩ := hw'
        subst hw''
        have hq_w2 := below_regrown wr dq osq
        generalize grow (redrawn wr dq) osq = w2 at *
        go_wp2_with fail
        go_roundw
        case rel => exact ⟨k + 1, by omega, by go_num, fun j hj => by
          by_cases hjk : j < k
          · exact hall.out j hjk
          · obtain rfl : j = k := by omega
            rw [HD.out, HD2.out, of_decide_eq_true HQ.out], hb.trans (hq_w2.mono hsz)⟩
        case measure => simp [intOf]; omega
      | false =>
        go_wp2_with fail
        refine wp_region_quiet_below (by kernel_rfl) (by kernel_rfl) ?_
        repeat (go_big_quiet_step (first | with_reducible exact CE.out _ _))
        refine wpQuiet_nil ?_
        intro _ hw'
        obtain ⟨⟨dq, osq⟩, hw''⟩ := hw'
        subst hw''
        have hq_w2 := below_regrown wr dq osq
        generalize grow (redrawn wr dq) osq = w2 at *
        go_wp2_with fail
        go_ret
        exact ⟨rB (by
          symm
          rw [decide_eq_false_iff_not]
          rintro rfl
          have := HD2.out
          rw [HD.out] at this
          exact of_decide_eq_false HQ.out (by simpa using this)), hb.trans (hq_w2.mono hsz)⟩
    · have hkn : n ≤ k := by omega
      clear h h'
      go_wp2_with fail
      go_ret
      exact ⟨rB (by
        symm
        rw [decide_eq_true_eq]
        apply List.ext_getElem?
        intro j
        by_cases hj : j < k
        · exact hall.out j hj
        · rw [List.getElem?_eq_none (by rw [hl.out]; omega), List.getElem?_eq_none (by rw [hl'.out]; omega)]), hb⟩
set_option maxHeartbeats 1000000 in
theorem spec_SameRows {B n c B' n' c' : Nat} {A A' : Option Addr} {xs ys : List (List Int)} (w : World) (h : RL 1 w B A n c (xs.flatMap rowF)) (h' : RL 1 w B' A' n' c' (ys.flatMap rowF)) (hB : B ≤ w.heap.size) (hB' : B' ≤ w.heap.size) (hn : n ≤ 1048576) (hn' : n' ≤ 1048576) (hsm : SmR xs) (hsm' : SmR ys) :
    Calls Try.prog 113 #[.slice A n c, .slice A' n' c'] w fun e w' => e = .returned (.bool (decide (xs = ys))) ∧ Below w.heap.size w w' := by
  have hl := hide (h.row rowF_len (by omega))
  have hl' := hide (h'.row rowF_len (by omega))
  have HSM := hide hsm
  have HSM' := hide hsm'
  clear hsm hsm'
  by_cases hnn : n = n'
  case neg =>
    have hne : ((n : Int) != (n' : Int)) = true := by simp; omega
    have HF := hide (show decide (xs = ys) = false from by rw [decide_eq_false_iff_not]; rintro rfl; exact hnn (by rw [← hl.out, ← hl'.out]))
    clear hnn h h'
    go_enter Try.func113, Try.ntmps113
    go_wp2
    go_ret
    exact ⟨rB HF.out.symm, Below.refl _ _⟩
  subst hnn
  go_enter Try.func113, Try.ntmps113
  go_wp2
  go_loopw [5] (fun i wr => ∃ k : Nat, k ≤ n ∧ i = .int .i64 (k : Int) ∧ Hid (∀ j, j < k → xs[j]? = ys[j]?) ∧ Below w.heap.size w wr)
    (fun i _ => n - (intOf i).toNat)
  case atStart => exact ⟨0, Nat.zero_le _, rfl, fun j hj => absurd hj (by omega), Below.refl _ _⟩
  case round =>
    obtain ⟨k, hk, rfl, hall, hb⟩ := hrel
    have hsz := hb.size
    by_cases hlt : k < n
    · obtain ⟨b, off, d, A1, n1, c1, rfl, hbB, hd, e0, hR⟩ := h.rowAt hlt
      obtain ⟨b2, off2, d2, A2, n2, c2, rfl, hbB2, hd2, g0, hR2⟩ := h'.rowAt hlt
      have hbw : b < w.heap.size := by omega
      have hbw2 : b2 < w.heap.size := by omega
      have h1 : (0 : Int) ≤ (k : Int) := by omega
      have h2 : (k : Int) < (n : Int) := by omega
      have y0 := cell_regrown ((hb.cell (p := ⟨b, off + k, none⟩) hbw).trans e0)
      have z0 := cell_regrown ((hb.cell (p := ⟨b2, off2 + k, none⟩) hbw2).trans g0)
      have HR1 := hR.below (hb.mono hB)
      have HR2 := hR2.below (hb.mono hB')
      have hm1 := HSM.out k d hd
      have hm2 := HSM'.out k d2 hd2
      rw [hR.1] at hm1
      rw [hR2.1] at hm2
      obtain ⟨q, hq⟩ : ∃ q, decide (d = d2) = q := ⟨_, rfl⟩
      have cE : ∀ d1 os, Calls Try.prog 150 #[.slice A1 n1 c1, .slice A2 n2 c2] (grow (redrawn wr d1) os) fun e w'' => e = .returned (.bool q) ∧ ∃ p : Regrown, w'' = grow (redrawn wr p.d) p.os :=
        fun d1 os => Calls.regrown_of ((spec_SameVec _ (HR1.below ((below_regrown wr d1 os).mono (by omega))) (HR2.below ((below_regrown wr d1 os).mono (by omega))) hm1 hm2).mono fun e w' hh => ⟨hh.below.1.trans (rB hq), hh.below.2⟩)
      have CE := hide cE
      have HQ := hide hq
      have HD := hide hd
      have HD2 := hide hd2
      clear cE e0 g0 h h' hR hR2 hd hd2 HR1 HR2 hq hm1 hm2
      cases q with
      | true =>
        go_wp2_with fail
        refine wp_region_quiet_below (by kernel_rfl) (by kernel_rfl) ?_
        repeat (go_big_quiet_step (first | with_reducible exact CE.out _ _))
        refine wpQuiet_nil ?_
        intro _ hw'
        obtain ⟨⟨dq, osq⟩, hw''⟩ := hw'
        subst hw''
        have hq_w2 := below_regrown wr dq osq
        generalize grow (redrawn wr dq) osq = w2 at *
        go_wp2_with fail
        go_roundw
        case rel => exact ⟨k + 1, by omega, by go_num, fun j hj => by
          by_cases hjk : j < k
          · exact hall.out j hjk
          · obtain rfl : j = k := by omega
            rw [HD.out, HD2.out, of_decide_eq_true HQ.out], hb.trans (hq_w2.mono hsz)⟩
        case measure => simp [intOf]; omega
      | false =>
        go_wp2_with fail
        refine wp_region_quiet_below (by kernel_rfl) (by kernel_rfl) ?_
        repeat (go_big_quiet_step (first | with_reducible exact CE.out _ _))
        refine wpQuiet_nil ?_
        intro _ hw'
        obtain ⟨⟨dq, osq⟩, hw''⟩ := hw'
        subst hw''
        have hq_w2 := below_regrown wr dq osq
        generalize grow (redrawn wr dq) osq = w2 at *
        go_wp2_with fail
        go_ret
        exact ⟨rB (by
          symm
          rw [decide_eq_false_iff_not]
          rintro rfl
          have := HD2.out
          rw [HD.out] at this
          exact of_decide_eq_false HQ.out (by simpa using this)), hb.trans (hq_w2.mono hsz)⟩
    · have hkn : n ≤ k := by omega
      clear h h'
      go_wp2_with fail
      go_ret
      exact ⟨rB (by
        symm
        rw [decide_eq_true_eq]
        apply List.ext_getElem?
        intro j
        by_cases hj : j < k
        · exact hall.out j hj
        · rw [List.getElem?_eq_none (by rw [hl.out]; omega), List.getElem?_eq_none (by rw [hl'.out]; omega)]), hb⟩
end Go.Proofs.Ytehfglfbnjdcoaa
