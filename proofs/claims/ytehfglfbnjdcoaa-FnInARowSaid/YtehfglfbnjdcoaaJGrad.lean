/-
  Joined: Rows2, SameG, ZeroI, AddI.
-/
import Derived.Test.YtehfglfbnjdcoaaRowS
import Derived.Test.YtehfglfbnjdcoaaVec2
import Derived.WalkKit
import Derived.BigQuiet
import Derived.Lib.QuietBelow
import Derived.Test.YtehfglfbnjdcoaaGrads
import Derived.Test.YtehfglfbnjdcoaaJGive
import Derived.Test.YtehfglfbnjdcoaaVec
import Derived.Test.YtehfglfbnjdcoaaModelI
import Derived.Test.YtehfglfbnjdcoaaModelS
import Derived.Deep.DeepMust
import Derived.Deep.RegionHeld3
import Derived.Deep.Cut
import Derived.Deep.RegionLaw
namespace Go.Proofs.Ytehfglfbnjdcoaa
open Go.RowKit Go.Sort
set_option maxRecDepth 100000
set_option maxRecDepth 100000

set_option maxHeartbeats 1000000 in
theorem impl_SameRows {B n c B' n' c' : Nat} {A A' : Option Addr} {xs ys : List (List Int)} (w : World) (h : RL 1 w B A n c (xs.flatMap rowF)) (h' : RL 1 w B' A' n' c' (ys.flatMap rowF)) (hB : B ≤ w.heap.size) (hB' : B' ≤ w.heap.size) (hn : n ≤ 1048576) (hn' : n' ≤ 1048576) (hsm : SmR xs) (hsm' : SmR ys) :
    Calls Try.prog 114 #[.slice A n c, .slice A' n' c'] w fun e w' => e = .returned (.bool (decide (xs = ys))) ∧ Below w.heap.size w w' := by
  have hl := hide (h.row rowF_len (by omega))
  have hl' := hide (h'.row rowF_len (by omega))
  have HSM := hide hsm
  have HSM' := hide hsm'
  clear hsm hsm'
  by_cases hnn : n = n'
  case neg =>
    have hne : ((n : Int) != (n' : Int)) = true := by simp; omega
    have HF := hide (show decide (xs = ys) = false from by rw [decide_eq_false_iff_not]; rintro rfl; exact hnn (by rw [← hl.out, ← hl'.out]))
    clear hnn h h'
    go_enter Try.func114, Try.ntmps114
    go_wp2
    go_ret
    exact ⟨rB HF.out.symm, Below.refl _ _⟩
  subst hnn
  go_enter Try.func114, Try.ntmps114
  go_wp2
  go_loopw [13] (fun i wr => ∃ k : Nat, k ≤ n ∧ i = .int .i64 (k : Int) ∧ Hid (∀ j, j < k → xs[j]? = ys[j]?) ∧ Below w.heap.size w wr)
    (fun i _ => n - (intOf i).toNat)
  case atStart => exact ⟨0, Nat.zero_le _, rfl, fun j hj => absurd hj (by omega), Below.refl _ _⟩
  case round =>
    obtain ⟨k, hk, rfl, hall, hb⟩ := hrel
    have hsz := hb.size
    by_cases hlt : k < n
    · obtain ⟨b, off, d, A1, n1, c1, rfl, hbB, hd, e0, hR⟩ := h.rowAt hlt
      obtain ⟨b2, off2, d2, A2, n2, c2, rfl, hbB2, hd2, g0, hR2⟩ := h'.rowAt hlt
      have hbw : b < w.heap.size := by omega
      have hbw2 : b2 < w.heap.size := by omega
      have h1 : (0 : Int) ≤ (k : Int) := by omega
      have h2 : (k : Int) < (n : Int) := by omega
      have y0 := cell_regrown ((hb.cell (p := ⟨b, off + k, none⟩) hbw).trans e0)
      have z0 := cell_regrown ((hb.cell (p := ⟨b2, off2 + k, none⟩) hbw2).trans g0)
      have HR1 := hR.below (hb.mono hB)
      have HR2 := hR2.below (hb.mono hB')
      have hm1 := HSM.out k d hd
      have hm2 := HSM'.out k d2 hd2
      rw [hR.1] at hm1
      rw [hR2.1] at hm2
      obtain ⟨q, hq⟩ : ∃ q, decide (d = d2) = q := ⟨_, rfl⟩
      have cE : ∀ d1 os, Calls Try.prog 151 #[.slice A1 n1 c1, .slice A2 n2 c2] (grow (redrawn wr d1) os) fun e w'' => e = .returned (.bool q) ∧ ∃ p : Regrown, w'' = grow (redrawn wr p.d) p.os :=
        fun d1 os => Calls.regrown_of ((impl_SameVec _ (HR1.below ((below_regrown wr d1 os).mono (by omega))) (HR2.below ((below_regrown wr d1 os).mono (by omega))) hm1 hm2).mono fun e w' hh => ⟨hh.below.1.trans (rB hq), hh.below.2⟩)
      have CE := hide cE
      have HQ := hide hq
      have HD := hide hd
      have HD2 := hide hd2
      clear cE e0 g0 h h' hR hR2 hd hd2 HR1 HR2 hq hm1 hm2
      cases q with
      | true =>
        go_wp2_with fail
        refine wp_region_quiet_below (by kernel_rfl) (by kernel_rfl) ?_
        repeat (go_big_quiet_step (first | with_reducible exact CE.out _ _))
        refine wpQuiet_nil ?_
        intro _ hw'
        obtain ⟨⟨dq, osq⟩, hw''⟩ := hw'
        subst hw''
        have hq_w2 := below_regrown wr dq osq
        generalize grow (redrawn wr dq) osq = w2 at *
        go_wp2_with fail
        go_roundw
        case rel => exact ⟨k + 1, by omega, by go_num, fun j hj => by
          by_cases hjk : j < k
          · exact hall.out j hjk
          · obtain rfl : j = k := by omega
            rw [HD.out, HD2.out, of_decide_eq_true HQ.out], hb.trans (hq_w2.mono hsz)⟩
        case measure => simp [intOf]; omega
      | false =>
        go_wp2_with fail
        refine wp_region_quiet_below (by kernel_rfl) (by kernel_rfl) ?_
        repeat (go_big_quiet_step (first | with_reducible exact CE.out _ _))
        refine wpQuiet_nil ?_
        intro _ hw'
        obtain ⟨⟨dq, osq⟩, hw''⟩ := hw'
        subst hw''
        have hq_w2 := below_regrown wr dq osq
        generalize grow (redrawn wr dq) osq = w2 at *
        go_wp2_with fail
        go_ret
        exact ⟨rB (by
          symm
          rw [decide_eq_false_iff_not]
          rintro rfl
          have := HD2.out
          rw [HD.out] at this
          exact of_decide_eq_false HQ.out (by simpa using this)), hb.trans (hq_w2.mono hsz)⟩
    · have hkn : n ≤ k := by omega
      clear h h'
      go_wp2_with fail
      go_ret
      exact ⟨rB (by
        symm
        rw [decide_eq_true_eq]
        apply List.ext_getElem?
        intro j
        by_cases hj : j < k
        · exact hall.out j hj
        · rw [List.getElem?_eq_none (by rw [hl.out]; omega), List.getElem?_eq_none (by rw [hl'.out]; omega)]), hb⟩
set_option maxHeartbeats 1000000 in
theorem spec_SameRows {B n c B' n' c' : Nat} {A A' : Option Addr} {xs ys : List (List Int)} (w : World) (h : RL 1 w B A n c (xs.flatMap rowF)) (h' : RL 1 w B' A' n' c' (ys.flatMap rowF)) (hB : B ≤ w.heap.size) (hB' : B' ≤ w.heap.size) (hn : n ≤ 1048576) (hn' : n' ≤ 1048576) (hsm : SmR xs) (hsm' : SmR ys) :
    Calls Try.prog 113 #[.slice A n c, .slice A' n' c'] w fun e w' => e = .returned (.bool (decide (xs = ys))) ∧ Below w.heap.size w w' := by
  have hl := hide (h.row rowF_len (by omega))
  have hl' := hide (h'.row rowF_len (by omega))
  have HSM := hide hsm
  have HSM' := hide hsm'
  clear hsm hsm'
  by_cases hnn : n = n'
  case neg =>
    have hne : ((n : Int) != (n' : Int)) = true := by simp; omega
    have HF := hide (show decide (xs = ys) = false from by rw [decide_eq_false_iff_not]; rintro rfl; exact hnn (by rw [← hl.out, ← hl'.out]))
    clear hnn h h'
    go_enter Try.func113, Try.ntmps113
    go_wp2
    go_ret
    exact ⟨rB HF.out.symm, Below.refl _ _⟩
  subst hnn
  go_enter Try.func113, Try.ntmps113
  go_wp2
  go_loopw [5] (fun i wr => ∃ k : Nat, k ≤ n ∧ i = .int .i64 (k : Int) ∧ Hid (∀ j, j < k → xs[j]? = ys[j]?) ∧ Below w.heap.size w wr)
    (fun i _ => n - (intOf i).toNat)
  case atStart => exact ⟨0, Nat.zero_le _, rfl, fun j hj => absurd hj (by omega), Below.refl _ _⟩
  case round =>
    obtain ⟨k, hk, rfl, hall, hb⟩ := hrel
    have hsz := hb.size
    by_cases hlt : k < n
    · obtain ⟨b, off, d, A1, n1, c1, rfl, hbB, hd, e0, hR⟩ := h.rowAt hlt
      obtain ⟨b2, off2, d2, A2, n2, c2, rfl, hbB2, hd2, g0, hR2⟩ := h'.rowAt hlt
      have hbw : b < w.heap.size := by omega
      have hbw2 : b2 < w.heap.size := by omega
      have h1 : (0 : Int) ≤ (k : Int) := by omega
      have h2 : (k : Int) < (n : Int) := by omega
      have y0 := cell_regrown ((hb.cell (p := ⟨b, off + k, none⟩) hbw).trans e0)
      have z0 := cell_regrown ((hb.cell (p := ⟨b2, off2 + k, none⟩) hbw2).trans g0)
      have HR1 := hR.below (hb.mono hB)
      have HR2 := hR2.below (hb.mono hB')
      have hm1 := HSM.out k d hd
      have hm2 := HSM'.out k d2 hd2
      rw [hR.1] at hm1
      rw [hR2.1] at hm2
      obtain ⟨q, hq⟩ : ∃ q, decide (d = d2) = q := ⟨_, rfl⟩
      have cE : ∀ d1 os, Calls Try.prog 150 #[.slice A1 n1 c1, .slice A2 n2 c2] (grow (redrawn wr d1) os) fun e w'' => e = .returned (.bool q) ∧ ∃ p : Regrown, w'' = grow (redrawn wr p.d) p.os :=
        fun d1 os => Calls.regrown_of ((spec_SameVec _ (HR1.below ((below_regrown wr d1 os).mono (by omega))) (HR2.below ((below_regrown wr d1 os).mono (by omega))) hm1 hm2).mono fun e w' hh => ⟨hh.below.1.trans (rB hq), hh.below.2⟩)
      have CE := hide cE
      have HQ := hide hq
      have HD := hide hd
      have HD2 := hide hd2
      clear cE e0 g0 h h' hR hR2 hd hd2 HR1 HR2 hq hm1 hm2
      cases q with
      | true =>
        go_wp2_with fail
        refine wp_region_quiet_below (by kernel_rfl) (by kernel_rfl) ?_
        repeat (go_big_quiet_step (first | with_reducible exact CE.out _ _))
        refine wpQuiet_nil ?_
        intro _ hw'
        obtain ⟨⟨dq, osq⟩, hw''⟩ := hw'
        subst hw''
        have hq_w2 := below_regrown wr dq osq
        generalize grow (redrawn wr dq) osq = w2 at *
        go_wp2_with fail
        go_roundw
        case rel => exact ⟨k + 1, by omega, by go_num, fun j hj => by
          by_cases hjk : j < k
          · exact hall.out j hjk
          · obtain rfl : j = k := by omega
            rw [HD.out, HD2.out, of_decide_eq_true HQ.out], hb.trans (hq_w2.mono hsz)⟩
        case measure => simp [intOf]; omega
      | false =>
        go_wp2_with fail
        refine wp_region_quiet_below (by kernel_rfl) (by kernel_rfl) ?_
        repeat (go_big_quiet_step (first | with_reducible exact CE.out _ _))
        refine wpQuiet_nil ?_
        intro _ hw'
        obtain ⟨⟨dq, osq⟩, hw''⟩ := hw'
        subst hw''
        have hq_w2 := below_regrown wr dq osq
        generalize grow (redrawn wr dq) osq = w2 at *
        go_wp2_with fail
        go_ret
        exact ⟨rB (by
          symm
          rw [decide_eq_false_iff_not]
          rintro rfl
          have := HD2.out
          rw [HD.out] at this
          exact of_decide_eq_false HQ.out (by simpa using this)), hb.trans (hq_w2.mono hsz)⟩
    · have hkn : n ≤ k := by omega
      clear h h'
      go_wp2_with fail
      go_ret
      exact ⟨rB (by
        symm
        rw [decide_eq_true_eq]
        apply List.ext_getElem?
        intro j
        by_cases hj : j < k
        · exact hall.out j hj
        · rw [List.getElem?_eq_none (by rw [hl.out]; omega), List.getElem?_eq_none (by rw [hl'.out]; omega)]), hb⟩
end Go.Proofs.Ytehfglfbnjdcoaa
namespace Go.Proofs.Ytehfglfbnjdcoaa
open Go.RowKit
set_option maxRecDepth 100000

set_option maxHeartbeats 1000000 in
theorem impl_SameGrads {B n c B' n' c' : Nat} {A A' : Option Addr} {xs ys : List (List Int)} (l l' : Int) (s s' : Bool) (w : World) (h : RL 1 w B A n c (xs.flatMap rowF)) (h' : RL 1 w B' A' n' c' (ys.flatMap rowF)) (hB : B ≤ w.heap.size) (hB' : B' ≤ w.heap.size) (hn : n ≤ 1048576) (hn' : n' ≤ 1048576) (hsm : SmR xs) (hsm' : SmR ys) :
    Calls Try.prog 51 #[Grv A n c l s, Grv A' n' c' l' s'] w fun e w' => e = .returned (.bool (decide (xs = ys) && decide (l = l') && decide (s = s'))) ∧ Below w.heap.size w w' := by
  obtain ⟨wb, hwb⟩ : ∃ wb, wb = ((w.alloc (.cells #[.slice A n c, .int .i64 l, .bool s] 32)).alloc (.cells #[.slice A' n' c', .int .i64 l', .bool s'] 32)) := ⟨_, rfl⟩
  have hb : Below w.heap.size w wb := hwb ▸ (((Below.refl _ _).alloc (Nat.le_refl _) _).alloc (by simp) _)
  have x0 : wb.cell? ⟨w.heap.size, 0, none⟩ = some (.slice A n c) := by rw [hwb]; simp
  have x1 : wb.cell? ⟨w.heap.size, 1, none⟩ = some (.int .i64 l) := by rw [hwb]; simp
  have x2 : wb.cell? ⟨w.heap.size, 2, none⟩ = some (.bool s) := by rw [hwb]; simp
  have y0 : wb.cell? ⟨w.heap.size + 1, 0, none⟩ = some (.slice A' n' c') := by rw [hwb]; simp
  have y1 : wb.cell? ⟨w.heap.size + 1, 1, none⟩ = some (.int .i64 l') := by rw [hwb]; simp
  have y2 : wb.cell? ⟨w.heap.size + 1, 2, none⟩ = some (.bool s') := by rw [hwb]; simp
  have HE := hide (impl_SameRows wb (h.below (hb.mono hB)) (h'.below (hb.mono hB')) (by have := hb.size; omega) (by have := hb.size; omega) hn hn' hsm hsm')
  have HB := hide hb
  have HW := hide hwb
  obtain ⟨q, hq⟩ : ∃ q, decide (xs = ys) = q := ⟨_, rfl⟩
  rw [hq] at HE ⊢
  clear h h' hn hn' hsm hsm' hb hwb hq
  by_cases hl : l = l'
  · subst hl
    cases q <;> cases s <;> cases s'
    all_goals
      go_enter Try.func51, Try.ntmps51
      go_wp2_with fail
      rw [← HW.out]
      refine HE.out.mono ?_
      rintro e w2 ⟨rfl, hb2⟩
      replace x1 := cellB hb2 x1
      replace x2 := cellB hb2 x2
      replace y1 := cellB hb2 y1
      replace y2 := cellB hb2 y2
      have HB2 := hide (HB.out.trans (hb2.mono HB.out.size))
      go_wp2_with fail
      go_ret
      exact ⟨rB (by simp), HB2.out⟩
  · have hd : (l == l') = false := by simpa using hl
    have HD := hide (show decide (l = l') = false from decide_eq_false hl)
    rw [HD.out]
    clear hl
    cases q <;> cases s <;> cases s'
    all_goals
      go_enter Try.func51, Try.ntmps51
      go_wp2_with fail
      rw [← HW.out]
      refine HE.out.mono ?_
      rintro e w2 ⟨rfl, hb2⟩
      replace x1 := cellB hb2 x1
      replace x2 := cellB hb2 x2
      replace y1 := cellB hb2 y1
      replace y2 := cellB hb2 y2
      have HB2 := hide (HB.out.trans (hb2.mono HB.out.size))
      go_wp2_with fail
      go_ret
      exact ⟨rB (by simp), HB2.out⟩
set_option maxHeartbeats 1000000 in
theorem spec_SameGrads {B n c B' n' c' : Nat} {A A' : Option Addr} {xs ys : List (List Int)} (l l' : Int) (s s' : Bool) (w : World) (h : RL 1 w B A n c (xs.flatMap rowF)) (h' : RL 1 w B' A' n' c' (ys.flatMap rowF)) (hB : B ≤ w.heap.size) (hB' : B' ≤ w.heap.size) (hn : n ≤ 1048576) (hn' : n' ≤ 1048576) (hsm : SmR xs) (hsm' : SmR ys) :
    Calls Try.prog 50 #[Grv A n c l s, Grv A' n' c' l' s'] w fun e w' => e = .returned (.bool (decide (xs = ys) && decide (l = l') && decide (s = s'))) ∧ Below w.heap.size w w' := by
  obtain ⟨wb, hwb⟩ : ∃ wb, wb = ((w.alloc (.cells #[.slice A n c, .int .i64 l, .bool s] 32)).alloc (.cells #[.slice A' n' c', .int .i64 l', .bool s'] 32)) := ⟨_, rfl⟩
  have hb : Below w.heap.size w wb := hwb ▸ (((Below.refl _ _).alloc (Nat.le_refl _) _).alloc (by simp) _)
  have x0 : wb.cell? ⟨w.heap.size, 0, none⟩ = some (.slice A n c) := by rw [hwb]; simp
  have x1 : wb.cell? ⟨w.heap.size, 1, none⟩ = some (.int .i64 l) := by rw [hwb]; simp
  have x2 : wb.cell? ⟨w.heap.size, 2, none⟩ = some (.bool s) := by rw [hwb]; simp
  have y0 : wb.cell? ⟨w.heap.size + 1, 0, none⟩ = some (.slice A' n' c') := by rw [hwb]; simp
  have y1 : wb.cell? ⟨w.heap.size + 1, 1, none⟩ = some (.int .i64 l') := by rw [hwb]; simp
  have y2 : wb.cell? ⟨w.heap.size + 1, 2, none⟩ = some (.bool s') := by rw [hwb]; simp
  have HE := hide (spec_SameRows wb (h.below (hb.mono hB)) (h'.below (hb.mono hB')) (by have := hb.size; omega) (by have := hb.size; omega) hn hn' hsm hsm')
  have HB := hide hb
  have HW := hide hwb
  obtain ⟨q, hq⟩ : ∃ q, decide (xs = ys) = q := ⟨_, rfl⟩
  rw [hq] at HE ⊢
  clear h h' hn hn' hsm hsm' hb hwb hq
  by_cases hl : l = l'
  · subst hl
    by_cases hs : s = s'
    · subst hs
      cases q <;> cases s
      all_goals
        go_enter Try.func50, Try.ntmps50
        go_wp2_with fail
        rw [← HW.out]
        refine HE.out.mono ?_
        rintro e w2 ⟨rfl, hb2⟩
        replace x1 := cellB hb2 x1
        replace x2 := cellB hb2 x2
        replace y1 := cellB hb2 y1
        replace y2 := cellB hb2 y2
        have HB2 := hide (HB.out.trans (hb2.mono HB.out.size))
        go_wp2_with fail
        go_ret
        exact ⟨rB (by simp), HB2.out⟩
    · have HD := hide (show decide (s = s') = false from decide_eq_false hs)
      rw [HD.out]
      cases s <;> cases s' <;> first | exact absurd rfl hs | skip
      all_goals clear hs HD
      all_goals
        go_enter Try.func50, Try.ntmps50
        go_wp2_with fail
        go_ret
        exact ⟨rB (by simp), by have := HB.out; rwa [HW.out] at this⟩
  · have hd : (l == l') = false := by simpa using hl
    have HD := hide (show decide (l = l') = false from decide_eq_false hl)
    rw [HD.out]
    clear hl
    go_enter Try.func50, Try.ntmps50
    go_wp2_with fail
    go_ret
    exact ⟨rB (by simp), by have := HB.out; rwa [HW.out] at this⟩
end Go.Proofs.Ytehfglfbnjdcoaa
namespace Go.Proofs.Ytehfglfbnjdcoaa
open Go.RowKit
set_option maxRecDepth 100000

set_option maxHeartbeats 4000000 in
theorem impl_ZeroGrads {B n c : Nat} {A : Option Addr} {ds : List OpD} (w : World) (h : RL 4 w B A n c (ds.flatMap opF)) (hB : B ≤ w.heap.size) (hn : n ≤ 1048576) (hsm : SmO ds) :
    Calls Try.prog 45 #[Modv A n c] w (GiveG w (zeroG ds)) := by
  have hl := hide (h.row opF_len (by omega))
  have HSM := hide hsm
  clear hsm
  obtain ⟨w1, hw1⟩ : ∃ W, W = w.alloc (.cells #[.slice A n c] 36) := ⟨_, rfl⟩
  obtain ⟨w2, hw2⟩ : ∃ W, W = w1.alloc (.cells #[.slice none 0 0, .int .i64 0, .bool false] 32) := ⟨_, rfl⟩
  have s1 : w1.heap.size = w.heap.size + 1 := by rw [hw1]; simp
  have s2 : w2.heap.size = w.heap.size + 1 + 1 := by rw [hw2]; simp [s1]
  have hb2 : Below w.heap.size w w2 := hw2 ▸ (hw1 ▸ (Below.refl _ _).alloc (Nat.le_refl _) _ : Below w.heap.size w w1).alloc (by omega) _
  have pm : w2.heap[w.heap.size]? = some (.cells #[.slice A n c] 36 (0, 0)) := by
    rw [hw2, Below.heap_alloc _ _ _ (by omega), hw1]; exact heap_alloc_new _ _
  have pr : w2.heap[w.heap.size + 1]? = some (.cells #[.slice none 0 0, .int .i64 0, .bool false] 32 (0, 0)) := by
    rw [← s1, hw2]; exact heap_alloc_new _ _
  have x0 := blk_cell pm 0
  simp at x0
  have HW1 := hide hw1
  have HW2 := hide hw2
  clear hw1 hw2 s1
  have HM := hide (fun (W : World) (hW : Below w.heap.size w W) => impl_ModelOk W (h.below (hW.mono hB)) (by have := hW.size; omega) hn HSM.out)
  obtain ⟨qm, hqm⟩ : ∃ q, okMd ds = q := ⟨_, rfl⟩
  cases qm with
  | false =>
    have HZ := hide (show zeroG ds = ⟨[], 0, false⟩ from by rw [zeroG, hqm]; rfl)
    have HM0 := hide (HM.out w2 hb2)
    rw [hqm] at HM0
    clear h hqm
    go_enter Try.func45, Try.ntmps45
    go_wp2_with fail
    rw [← HW1.out, ← HW2.out]
    refine HM0.out.mono ?_
    rintro e w3 ⟨rfl, hb3⟩
    have hb := hb2.trans (hb3.mono hb2.size)
    have pr := (hb3.block _ (by omega)).trans pr
    have q0 := blk_cell pr 0
    have q1 := blk_cell pr 1
    have q2 := blk_cell pr 2
    have y0 := blk_free pr 0
    have y1 := blk_free pr 1
    have y2 := blk_free pr 2
    simp at q0 q1 q2
    have PR := hide pr
    have HB := hide hb
    clear pr pm hb3 hb hb2 x0 HM0 HM
    go_wp2_with fail
    refine bodyPost_ret (results_cell_row (P := Try.prog) (d := _) rfl _ _ (w.heap.size + 1) 32 #[.slice none 0 0, .int .i64 0, .bool false] (0, 0) rfl ?_ Try.underlying32 rfl rfl) rfl ?_
    · exact blk_set (blk_set (blk_set PR.out 0 _) 1 _) 2 _
    · rw [HZ.out]
      exact ⟨none, 0, rfl, by simpa using OL.nil _ _ _ _ _ _, below_set (below_set (below_set HB.out _ _ (by omega) _) _ _ (by omega) _) _ _ (by omega) _⟩
  | true =>
    have hlen := okMd_len hqm
    rw [hl.out] at hlen
    obtain ⟨zs, hzs⟩ : ∃ zs, ds.map (fun d => List.replicate d.p.length (0 : Int)) = zs := ⟨_, rfl⟩
    have HZ := hide (show zeroG ds = ⟨zs, 0, false⟩ from by rw [zeroG, if_pos hqm, hzs])
    have HZL := hide (show zs.length = n from by rw [← hzs, List.length_map, hl.out])
    have HST := hide (fun (k : Nat) (d : OpD) (hd : ds[k]? = some d) => show (zs.take (k + 1)).flatMap rowF = (zs.take k).flatMap rowF ++ [.s (List.replicate d.p.length 0)] from by
      have h1 : zs[k]? = some (List.replicate d.p.length 0) := by rw [← hzs, List.getElem?_map, hd]; rfl
      obtain ⟨hk, he⟩ := List.getElem?_eq_some_iff.1 h1
      rw [List.take_succ_eq_append_getElem hk, he, flat_snoc])
    have HB36 := hide (fun (k : Nat) (d : OpD) (hd : ds[k]? = some d) => okOd_len (okMd_op hqm hd))
    clear hzs hn
    have HM0 := hide (HM.out w2 hb2)
    rw [hqm] at HM0
    clear hqm HM
    go_enter Try.func45, Try.ntmps45
    go_wp2_with fail
    rw [← HW1.out, ← HW2.out]
    refine HM0.out.mono ?_
    rintro e w3 ⟨rfl, hb3⟩
    have hbw := hb2.trans (hb3.mono hb2.size)
    have s3 := hb3.size
    replace pr := (hb3.block _ (by omega)).trans pr
    replace x0 := cellB hb3 x0
    have x0a := fun o => cellB ((Below.refl _ _).alloc (Nat.le_refl _) o) x0
    have PR0 := hide pr
    have HBW := hide hbw
    clear pr pm hb3 hbw HM0
    go_wp2_with fail
    obtain ⟨g, hg⟩ : ∃ g, g = w3.heap.size := ⟨_, rfl⟩
    obtain ⟨w4, hw4⟩ : ∃ W, W = w3.alloc (.cells #[.slice none 0 0, .int .i64 0, .bool false] 32) := ⟨_, rfl⟩
    have hb4 : Below w.heap.size w w4 := hw4 ▸ HBW.out.alloc (by omega) _
    have s4 : w4.heap.size = g + 1 := by rw [hw4, hg]; simp
    have pg : w4.heap[g]? = some (.cells #[.slice none 0 0, .int .i64 0, .bool false] 32 (0, 0)) := by rw [hw4, hg]; exact heap_alloc_new _ _
    have pr : w4.heap[w.heap.size + 1]? = some (.cells #[.slice none 0 0, .int .i64 0, .bool false] 32 (0, 0)) := by rw [hw4, Below.heap_alloc _ _ _ (by omega)]; exact PR0.out
    rw [← hw4, ← hg]
    have hgw : w.heap.size + 2 ≤ g := by omega
    clear hw4 x0 x0a hb2 s2 s3 hg
    go_loopw [14] (fun i wr => ∃ k : Nat, k ≤ n ∧ i = .int .i64 (k : Int) ∧ (∃ A1 c1, wr.heap[g]? = some (.cells #[.slice A1 k c1, .int .i64 0, .bool false] 32 (0, 0)) ∧ OwRows wr (g + 1) wr.heap.size (.slice A1 k c1) k ((zs.take k).flatMap rowF)) ∧ wr.heap[w.heap.size + 1]? = some (.cells #[.slice none 0 0, .int .i64 0, .bool false] 32 (0, 0)) ∧ Below w.heap.size w wr ∧ g + 1 ≤ wr.heap.size)
      (fun i _ => n - (intOf i).toNat)
    case atStart => exact ⟨0, Nat.zero_le _, rfl, ⟨none, 0, pg, by simpa using OL.nil _ _ _ _ _ _⟩, pr, hb4, by omega⟩
    case round =>
      clear pg pr hb4 s4
      obtain ⟨k, hk, rfl, ⟨A1, c1, pg, hown⟩, pr, hb, hsz⟩ := hrel
      by_cases hlt : k < n
      · obtain ⟨b, off, d, A2, n2, c2, rfl, hbB, hd, e0, e1, e2, e3, hR⟩ := h.opAt hlt
        have hbk : b < w.heap.size := by omega
        have hst := HST.out k d hd
        have hn2 : n2 ≤ 36 := by have := HB36.out k d hd; rw [hR.1] at this; exact this
        rw [hR.1] at hst
        have HV := hide hst
        have h1 : (0 : Int) ≤ (k : Int) := by omega
        have h2 : (k : Int) < (n : Int) := by omega
        have z0 := (hb.cell (p := ⟨b, off + k * 4, none⟩) hbk).trans e0
        have z1 := (hb.cell (p := ⟨b, off + k * 4 + 1, none⟩) hbk).trans e1
        have z2 := (hb.cell (p := ⟨b, off + k * 4 + 2, none⟩) hbk).trans e2
        have z3 := (hb.cell (p := ⟨b, off + k * 4 + 3, none⟩) hbk).trans e3
        obtain ⟨wq, hwq⟩ : ∃ W, W = wr.alloc (.cells #[.int .i64 d.k, .int .i64 d.i, .int .i64 d.o, .slice A2 n2 c2] 52) := ⟨_, rfl⟩
        have hbq : Below wr.heap.size wr wq := hwq ▸ (Below.refl _ _).alloc (Nat.le_refl _) _
        have y3 : wq.cell? ⟨wr.heap.size, 3, none⟩ = some (.slice A2 n2 c2) := by rw [hwq]; simp
        have HWQ := hide hwq
        clear hwq e0 e1 e2 e3 hst hd hR h
        go_wp2_with fail
        rw [← HWQ.out]
        clear z0 z1 z2 z3
        have sq := hbq.size
        have hownq := hown.below hbq
        have pgq := (hbq.block _ (by omega)).trans pg
        have prq := (hbq.block _ (by omega)).trans pr
        have hbwq := hb.trans (hbq.mono hb.size)
        have t0 := blk_cell pgq 0
        simp at t0
        have hmk := fun W' : World => run_make_row' (P := Try.prog) 25 3 _ _ Try.underlying25 int_info rfl .i64 .i64 n2 (by omega) (by omega) W'
        have ta := fun o => cellB ((Below.refl _ _).alloc (Nat.le_refl _) o) t0
        have ya := fun o => cellB ((Below.refl _ _).alloc (Nat.le_refl _) o) y3
        have tb := fun o o' => cellB ((Below.refl _ _).alloc (Nat.le_refl _) o') (ta o)
        have HO := hide ((hownq.more (Nat.le_refl _) sq).below ((Below.refl wq.heap.size wq).drew) : OwRows wq.drew (g + 1) wq.drew.heap.size (.slice A1 k c1) k ((zs.take k).flatMap rowF))
        have PG := hide pgq
        have PR := hide prq
        have HBM := hide hbwq
        have hLO : g + 1 ≤ wq.heap.size := by omega
        have hKK : k < 1073741824 := by omega
        have hN2 : n2 ≤ 1048576 := by omega
        clear hown hownq pg pgq pr prq hb hbq hbwq
        go_region_law (first
          | (refine step_pushMade wq.drew n2 hN2 rfl (.tmp 19) (.tmp 25) _ rfl _ Try.underlying30 row_info rfl (g + 1) k c1 A1 ((zs.take k).flatMap rowF) rfl HO.out rfl hLO hKK ?_; intro A3 c3 w5 hO3 hon; have hon : Only (fun b => (Value.slice A1 k c1).ownBlock = some b) wq w5 := ⟨hon.os, hon.tape, hon.output, hon.size, hon.block⟩; have hne : ∀ q, (Value.slice A1 k c1).ownBlock = some q → g + 1 ≤ q := (fun q hq => (HO.out.lt q hq).1); have hs5 : wq.heap.size ≤ w5.heap.size := hon.size; have pg5 := (hon.block g (show g < wq.heap.size by omega) (fun hc => by have := hne _ hc; omega)).trans PG.out; have t05 := blk_cell pg5 0; have f05 := blk_free pg5 0; simp at t05; have PG5 := hide pg5; have HO5 := hide hO3; have HON := hide hon; have HNE := hide hne; clear pg5 hO3 hon hne))
        all_goals go_wp2_with fail
        all_goals go_roundw
        all_goals first
          | (simp [intOf]; omega; done)
          | exact ⟨k + 1, by omega, by go_num, ⟨_, _, blk_set PG5.out 0 _, by
              rw [HV.out]
              exact (HO5.out.only ((Only.refl (fun b => b = g) w5).set g 0 rfl _) (fun p h1 h2 h3 => by have h4 : p = g := h3; omega)).more (Nat.le_refl _) (by simp [World.setCell])⟩,
            (blk_far ((HON.out.block (w.heap.size + 1) (show w.heap.size + 1 < wq.heap.size by omega) (fun hc => by have := HNE.out _ hc; omega)).trans PR.out) (by omega) _),
            below_set (HBM.out.trans (HON.out.below (B := w.heap.size) (by omega) (fun p hp h3 => by have := HNE.out _ h3; omega))) _ _ (by omega) _, by simp only [World.setCell, Array.size_modify]; omega⟩
      · obtain rfl : k = n := by omega
        have HT := hide (show zs.take k = zs from List.take_of_length_le (by rw [HZL.out]; exact Nat.le_refl _))
        have hge : ¬ (k : Int) < (k : Int) := by omega
        have HOW := hide hown
        have HBF := hide hb
        have PRF := hide pr
        have q0 := blk_cell pr 0
        have q1 := blk_cell pr 1
        have q2 := blk_cell pr 2
        have y0 := blk_free pr 0
        have y1 := blk_free pr 1
        have y2 := blk_free pr 2
        have t0 := blk_cell pg 0
        have t1 := blk_cell pg 1
        have t2 := blk_cell pg 2
        simp at q0 q1 q2 t0 t1 t2
        clear pr pg hb hown h
        go_wp2_with fail
        refine bodyPost_ret (results_cell_row (P := Try.prog) (d := _) rfl _ _ (w.heap.size + 1) 32 #[.slice A1 k c1, .int .i64 0, .bool false] (0, 0) rfl ?_ Try.underlying32 rfl rfl) rfl ?_
        · exact blk_set (blk_set (blk_set PRF.out 0 _) 1 _) 2 _
        · refine giveG (g := zeroG ds) (by rw [HZ.out]; exact HZL.out) (by rw [HZ.out]) (by rw [HZ.out]) rfl ?_ ?_
          · rw [HZ.out, ← HT.out]
            exact (HOW.out.only (((Only.refl (fun b => b = w.heap.size + 1) wr).set (w.heap.size + 1) 0 rfl _).set (w.heap.size + 1) 1 rfl _ |>.set (w.heap.size + 1) 2 rfl _) (fun p h1 h2 h3 => by have h4 : p = w.heap.size + 1 := h3; omega)).more (by omega) (by simp [World.setCell])
          · exact below_set (below_set (below_set HBF.out _ _ (by omega) _) _ _ (by omega) _) _ _ (by omega) _
end Go.Proofs.Ytehfglfbnjdcoaa
namespace Go.Proofs.Ytehfglfbnjdcoaa
open Go.RowKit
set_option maxRecDepth 100000

set_option maxHeartbeats 4000000 in
theorem impl_AddGrads {B n c B' n' c' : Nat} {A A' : Option Addr} {xs ys : List (List Int)} (l l' : Int) (s s' : Bool) (w : World) (h : RL 1 w B A n c (xs.flatMap rowF)) (h' : RL 1 w B' A' n' c' (ys.flatMap rowF)) (hB : B ≤ w.heap.size) (hB' : B' ≤ w.heap.size) (hn : n ≤ 1048576) (hn' : n' ≤ 1048576) (hsm : SmR xs) (hsm' : SmR ys) :
    Calls Try.prog 49 #[Grv A n c l s, Grv A' n' c' l' s'] w (GiveG w (addG ⟨xs, l, s⟩ ⟨ys, l', s'⟩)) := by
  have hl := hide (h.row rowF_len (by omega))
  have hl' := hide (h'.row rowF_len (by omega))
  have HSM := hide hsm
  have HSM' := hide hsm'
  clear hsm hsm'
  obtain ⟨s0, hs0⟩ : ∃ s0, (s || s') = s0 := ⟨_, rfl⟩
  obtain ⟨zs, hz⟩ : ∃ zs, List.zipWith addRow xs ys = zs := ⟨_, rfl⟩
  obtain ⟨gs, hg⟩ : ∃ gs, List.zipWith addRowS xs ys = gs := ⟨_, rfl⟩
  have HR := hide (show addG ⟨xs, l, s⟩ ⟨ys, l', s'⟩ = ⟨zs, fxAdd l l', s0 || gs.any id || fxAddS l l'⟩ from by rw [addG]; simp only [hz, hg, hs0])
  obtain ⟨m, hm⟩ : ∃ m, m = min n n' := ⟨_, rfl⟩
  have HZL := hide (show zs.length = m from by rw [← hz, List.length_zipWith, hl.out, hl'.out, hm])
  have HGL := hide (show gs.length = m from by rw [← hg, List.length_zipWith, hl.out, hl'.out, hm])
  have HST := hide (fun (k : Nat) (x y : List Int) (hx : xs[k]? = some x) (hy : ys[k]? = some y) => show zs.take (k + 1) = zs.take k ++ [addRow x y] ∧ (gs.take (k + 1)).any id = ((gs.take k).any id || addRowS x y) from by
    rw [← hz, ← hg, zip_step _ hx hy, zip_step _ hx hy, any_snoc]; exact ⟨rfl, rfl⟩)
  have hm1 : m ≤ n := by omega
  have hm2 : m ≤ n' := by omega
  have HM3 := hide (show m = n ∨ m = n' by omega)
  have HC0 := hide (show (s = true ∧ s0 = true) ∨ (s = false ∧ s0 = s') by cases s <;> cases s' <;> simp_all)
  clear hz hg hm hs0
  obtain ⟨w1, hw1⟩ : ∃ W, W = w.alloc (.cells #[.slice A n c, .int .i64 l, .bool s] 32) := ⟨_, rfl⟩
  obtain ⟨w2, hw2⟩ : ∃ W, W = w1.alloc (.cells #[.slice A' n' c', .int .i64 l', .bool s'] 32) := ⟨_, rfl⟩
  obtain ⟨w3, hw3⟩ : ∃ W, W = w2.alloc (.cells #[.slice none 0 0, .int .i64 0, .bool false] 32) := ⟨_, rfl⟩
  obtain ⟨w4, hw4⟩ : ∃ W, W = w3.alloc (.cells #[.slice none 0 0, .int .i64 0, .bool s0] 32) := ⟨_, rfl⟩
  have s1 : w1.heap.size = w.heap.size + 1 := by rw [hw1]; simp
  have s2 : w2.heap.size = w.heap.size + 1 + 1 := by rw [hw2]; simp [s1]
  have s3 : w3.heap.size = w.heap.size + 1 + 1 + 1 := by rw [hw3]; simp [s2]
  have s4 : w4.heap.size = w.heap.size + 1 + 1 + 1 + 1 := by rw [hw4]; simp [s3]
  have hb4 : Below w.heap.size w w4 := hw4 ▸ (hw3 ▸ (hw2 ▸ (hw1 ▸ (Below.refl _ _).alloc (Nat.le_refl _) _ : Below w.heap.size w w1).alloc (by omega) _ : Below w.heap.size w w2).alloc (by omega) _ : Below w.heap.size w w3).alloc (by omega) _
  have pa : w4.heap[w.heap.size]? = some (.cells #[.slice A n c, .int .i64 l, .bool s] 32 (0, 0)) := by
    rw [hw4, Below.heap_alloc _ _ _ (by omega), hw3, Below.heap_alloc _ _ _ (by omega), hw2, Below.heap_alloc _ _ _ (by omega), hw1]; exact heap_alloc_new _ _
  have pb : w4.heap[w.heap.size + 1]? = some (.cells #[.slice A' n' c', .int .i64 l', .bool s'] 32 (0, 0)) := by
    rw [hw4, Below.heap_alloc _ _ _ (by omega), hw3, Below.heap_alloc _ _ _ (by omega), ← s1, hw2]; exact heap_alloc_new _ _
  have pr : w4.heap[w.heap.size + 1 + 1]? = some (.cells #[.slice none 0 0, .int .i64 0, .bool false] 32 (0, 0)) := by
    rw [hw4, Below.heap_alloc _ _ _ (by omega), ← s2, hw3]; exact heap_alloc_new _ _
  have pg : w4.heap[w.heap.size + 1 + 1 + 1]? = some (.cells #[.slice none 0 0, .int .i64 0, .bool s0] 32 (0, 0)) := by
    rw [← s3, hw4]; exact heap_alloc_new _ _
  have HW1 := hide hw1
  have HW2 := hide hw2
  have HW3 := hide hw3
  have HW4 := hide hw4
  clear hw1 hw2 hw3 hw4 s1 s2 s3
  have PGH := hide pg
  have PAH := hide pa
  have PBH := hide pb
  have PRH := hide pr
  have HB4 := hide hb4
  have S4 := hide s4
  clear pg pa pb pr hb4 s4
  go_enter Try.func49, Try.ntmps49
  go_upto_region 1 with fail
  go_cut [5] from 13 (fun v W => v = .pointer (some ⟨w.heap.size + 1 + 1 + 1, 0, none⟩) ∧ W = (((w.alloc (.cells #[.slice A n c, .int .i64 l, .bool s] 32)).alloc (.cells #[.slice A' n' c', .int .i64 l', .bool s'] 32)).alloc (.cells #[.slice none 0 0, .int .i64 0, .bool false] 32)).alloc (.cells #[.slice none 0 0, .int .i64 0, .bool s0] 32))
  case first =>
    clear h h' HSM HSM' HST HZL HGL HM3 HR PGH PAH PBH PRH HB4 S4 HW1 HW2 HW3 HW4
    rcases HC0.out with ⟨rfl, rfl⟩ | ⟨rfl, rfl⟩
    all_goals
      go_wp2_with fail
      go_meet
      case rel => exact ⟨rfl, rfl⟩
  obtain ⟨rfl, rfl⟩ := hcut
  go_wp2_with fail
  rw [← HW1.out, ← HW2.out, ← HW3.out, ← HW4.out]
  go_loopw [6] (fun i wr => ∃ k : Nat, k ≤ m ∧ i = .int .i64 (k : Int) ∧ (∃ A1 c1 fb, wr.heap[(w.heap.size + 1 + 1 + 1)]? = some (.cells #[.slice A1 k c1, .int .i64 0, .bool fb] 32 (0, 0)) ∧ Hid (fb = (s0 || (gs.take k).any id)) ∧ OwRows wr ((w.heap.size + 1 + 1 + 1) + 1) wr.heap.size (.slice A1 k c1) k ((zs.take k).flatMap rowF)) ∧ wr.heap[w.heap.size]? = some (.cells #[.slice A n c, .int .i64 l, .bool s] 32 (0, 0)) ∧ wr.heap[w.heap.size + 1]? = some (.cells #[.slice A' n' c', .int .i64 l', .bool s'] 32 (0, 0)) ∧ wr.heap[w.heap.size + 1 + 1]? = some (.cells #[.slice none 0 0, .int .i64 0, .bool false] 32 (0, 0)) ∧ Below w.heap.size w wr ∧ (w.heap.size + 1 + 1 + 1) + 1 ≤ wr.heap.size)
    (fun i _ => m - (intOf i).toNat)
  case atStart => exact ⟨0, Nat.zero_le _, rfl, ⟨none, 0, _, PGH.out, hide (by simp), by simpa using OL.nil _ _ _ _ _ _⟩, PAH.out, PBH.out, PRH.out, HB4.out, by rw [S4.out]; omega⟩
  case round =>
    obtain ⟨k, hk, rfl, ⟨A1, c1, fb, pg, hfb, hown⟩, pa, pb, pr, hb, hsz⟩ := hrel
    have a0 := blk_cell pa 0
    have a1 := blk_cell pa 1
    have b0 := blk_cell pb 0
    have b1 := blk_cell pb 1
    have t0 := blk_cell pg 0
    have t2 := blk_cell pg 2
    simp at a0 a1 b0 b1 t0 t2
    by_cases hlt : k < m
    · obtain ⟨b, off, x, Ax, nx, cx, rfl, hbB, hx, e0, hRx⟩ := h.rowAt (j := k) (by omega)
      obtain ⟨b2, off2, y, Ay, ny, cy, rfl, hbB2, hy, f0, hRy⟩ := h'.rowAt (j := k) (by omega)
      have z0 := (hb.cell (p := ⟨b, off + k, none⟩) (show b < w.heap.size by omega)).trans e0
      have z1 := (hb.cell (p := ⟨b2, off2 + k, none⟩) (show b2 < w.heap.size by omega)).trans f0
      have h1 : (0 : Int) ≤ (k : Int) := by omega
      have h2 : (k : Int) < (n : Int) := by omega
      have h3 : (k : Int) < (n' : Int) := by omega
      have hsx := HSM.out k x hx
      have hsy := HSM'.out k y hy
      have hst := HST.out k x y hx hy
      obtain ⟨zk, hzk⟩ : ∃ zk, addRow x y = zk := ⟨_, rfl⟩
      obtain ⟨gk, hgk⟩ : ∃ gk, addRowS x y = gk := ⟨_, rfl⟩
      rw [hRx.1] at hsx
      rw [hRy.1] at hsy
      rw [hzk, hgk] at hst
      have HV := hide (show (zs.take (k + 1)).flatMap rowF = (zs.take k).flatMap rowF ++ [.s zk] from by rw [hst.1, flat_snoc])
      have HS := hide (show (s0 || (gs.take (k + 1)).any id) = (fb || gk) from by rw [hst.2, hfb.out, Bool.or_assoc])
      clear hst hfb
      obtain ⟨m2, hm2'⟩ : ∃ m2, m2 = min nx ny := ⟨_, rfl⟩
      obtain ⟨qs, hqs⟩ : ∃ qs, List.zipWith fxAddS x y = qs := ⟨_, rfl⟩
      have HQA := hide (show qs.any id = gk from by rw [← hqs, ← hgk]; rfl)
      have HZKL := hide (show zk.length = m2 from by rw [← hzk, addRow, List.length_zipWith, hRx.1, hRy.1, hm2'])
      have HQL := hide (show qs.length = m2 from by rw [← hqs, List.length_zipWith, hRx.1, hRy.1, hm2'])
      have HSTI := hide (fun (q : Nat) (hq : q < m2) => show zk.take (q + 1) = zk.take q ++ [fxAdd (x.getD q 0) (y.getD q 0)] ∧ (qs.take (q + 1)).any id = ((qs.take q).any id || fxAddS (x.getD q 0) (y.getD q 0)) from by
        have g1 := get_some (xs := x) (k := q) (by rw [hRx.1]; omega)
        have g2 := get_some (xs := y) (k := q) (by rw [hRy.1]; omega)
        rw [← hzk, ← hqs, addRow, zip_step _ g1 g2, zip_step _ g1 g2, any_snoc]; exact ⟨rfl, rfl⟩)
      have hmx : m2 ≤ nx := by omega
      have hmy : m2 ≤ ny := by omega
      have HMM := hide (show m2 = nx ∨ m2 = ny by omega)
      obtain ⟨rk, hrk⟩ : ∃ rk, rk = wr.heap.size := ⟨_, rfl⟩
      obtain ⟨ws, hws⟩ : ∃ ws, ws = wr.alloc (.cells #[.slice none 0 0] 90) := ⟨_, rfl⟩
      have hbs : Below wr.heap.size wr ws := hws ▸ (Below.refl _ _).alloc (Nat.le_refl _) _
      have ss : ws.heap.size = rk + 1 := by rw [hws, hrk]; simp
      have pk : ws.heap[rk]? = some (.cells #[.slice none 0 0] 90 (0, 0)) := by rw [hws, hrk]; exact heap_alloc_new _ _
      have hbw := hb.trans (hbs.mono hb.size)
      replace pa := (hbs.block _ (by omega)).trans pa
      replace pb := (hbs.block _ (by omega)).trans pb
      replace pr := (hbs.block _ (by omega)).trans pr
      replace pg := (hbs.block _ (by omega)).trans pg
      have HOWN : Hid (OwRows ws ((w.heap.size + 1 + 1 + 1) + 1) rk (.slice A1 k c1) k ((zs.take k).flatMap rowF)) := hide (by rw [hrk]; exact hown.below hbs)
      have a0a := fun o => cellB ((Below.refl _ _).alloc (Nat.le_refl _) o) a0
      have b0a := fun o => cellB ((Below.refl _ _).alloc (Nat.le_refl _) o) b0
      have hrg : (w.heap.size + 1 + 1 + 1) + 1 ≤ rk := by omega
      have HRK := hide hrk
      have HWS := hide hws
      have PGH := hide pg
      have PAH := hide pa
      have PBH := hide pb
      have PRH := hide pr
      have PKH := hide pk
      have HBWH := hide hbw
      have SSH := hide ss
      have HXX := hide hRx
      have HYY := hide hRy
      have E0 := hide e0
      have F0 := hide f0
      clear hbs hws hown hzk hgk hqs hm2' hx hy hRx hRy e0 f0 h h' hrk pg pa pb pr pk hbw ss hb a1 b1 t0 t2 hsz z0 z1
      go_wp2_with fail
      rw [← HWS.out, ← HRK.out]
      clear a0a b0a a0 b0
      go_loopw [8] (fun j wi => ∃ q : Nat, q ≤ m2 ∧ j = .int .i64 (q : Int) ∧ (∃ A3 c3 fc, wi.heap[rk]? = some (.cells #[.slice A3 q c3] 90 (0, 0)) ∧ OwI wi (rk + 1) wi.heap.size (.slice A3 q c3) (zk.take q) ∧ wi.heap[(w.heap.size + 1 + 1 + 1)]? = some (.cells #[.slice A1 k c1, .int .i64 0, .bool fc] 32 (0, 0)) ∧ Hid (fc = (fb || (qs.take q).any id))) ∧ wi.heap[w.heap.size]? = some (.cells #[.slice (some ⟨b, off, none⟩) n c, .int .i64 l, .bool s] 32 (0, 0)) ∧ wi.heap[w.heap.size + 1]? = some (.cells #[.slice (some ⟨b2, off2, none⟩) n' c', .int .i64 l', .bool s'] 32 (0, 0)) ∧ wi.heap[w.heap.size + 1 + 1]? = some (.cells #[.slice none 0 0, .int .i64 0, .bool false] 32 (0, 0)) ∧ OwRows wi ((w.heap.size + 1 + 1 + 1) + 1) rk (.slice A1 k c1) k ((zs.take k).flatMap rowF) ∧ Below w.heap.size w wi ∧ rk + 1 ≤ wi.heap.size)
        (fun j _ => m2 - (intOf j).toNat)
      case atStart => exact ⟨0, Nat.zero_le _, rfl, ⟨none, 0, fb, PKH.out, by simpa using OI.nil _ _ _ _, PGH.out, hide (by simp)⟩, PAH.out, PBH.out, PRH.out, HOWN.out, HBWH.out, by rw [SSH.out]; omega⟩
      case round =>
        rename World => wi
        obtain ⟨q, hq, rfl, ⟨A3, c3, fc, pk, hO3, pg, hfc⟩, pa, pb, pr, hown, hb, hsz⟩ := hrel
        clear PKH PGH PAH PBH PRH HOWN HBWH SSH HWS
        have a0 := blk_cell pa 0
        have b0 := blk_cell pb 0
        have r0 := blk_cell pk 0
        have rf := blk_free pk 0
        have t2 := blk_cell pg 2
        have tf := blk_free pg 2
        have t0 := blk_cell pg 0
        have tf0 := blk_free pg 0
        simp at a0 b0 r0 t2 t0
        have z0 := (hb.cell (p := ⟨b, off + k, none⟩) (show b < w.heap.size by omega)).trans E0.out
        have z1 := (hb.cell (p := ⟨b2, off2 + k, none⟩) (show b2 < w.heap.size by omega)).trans F0.out
        by_cases hlq : q < m2
        · obtain ⟨bx, ox, hAx, hbx, hcx⟩ := HXX.out.at_ (k := q) (by omega)
          obtain ⟨bY, oy, hAy, hby, hcy⟩ := HYY.out.at_ (k := q) (by omega)
          subst hAx
          subst hAy
          have g1 : (0 : Int) ≤ (q : Int) := by omega
          have g2 : (q : Int) < (nx : Int) := by omega
          have g3 : (q : Int) < (ny : Int) := by omega
          have hsti := HSTI.out q hlq
          obtain ⟨u, hu⟩ : ∃ u, x.getD q 0 = u := ⟨_, rfl⟩
          obtain ⟨v, hv⟩ : ∃ v, y.getD q 0 = v := ⟨_, rfl⟩
          rw [hu] at hcx
          rw [hv] at hcy
          rw [hu, hv] at hsti
          have zx := (hb.cell (p := ⟨bx, ox + q, none⟩) (show bx < w.heap.size by omega)).trans hcx
          have zy := (hb.cell (p := ⟨bY, oy + q, none⟩) (show bY < w.heap.size by omega)).trans hcy
          have HZ1 := hide hsti.1
          have HZ2 := hide (show (fb || (qs.take (q + 1)).any id) = (fc || fxAddS u v) from by rw [hsti.2, hfc.out, Bool.or_assoc])
          have hzt := hide (show (zk.take q).length = q from by rw [List.length_take, HZKL.out]; omega)
          have HO3 := hide hO3
          have HOWN := hide hown
          have PK := hide pk
          have PG := hide pg
          have PA := hide pa
          have PB := hide pb
          have PR := hide pr
          have HBW := hide hb
          clear hu hv hcx hcy hsti hfc hO3 hown pk pg pa pb pr hb t0 tf0
          go_wp2
          go_quiet ((go_at_call 112; exact quietL (impl_FixAdd _ _ _)))
          cases fc
          all_goals
            have gate0 : True := trivial
            go_wp2_with (first
              | (at_builtin; clear gate0; go_must (refine wpList_pushI (wi.drewN nq) (fxAdd u v) rfl (.tmp 80) (.tmp 82) _ rfl 3 _ Try.underlying25 int_info rfl (lo := rk + 1) (hi := wi.heap.size) (xs := zk.take q) (v := .slice A3 q c3) rfl HO3.out rfl (show rk + 1 ≤ wi.heap.size from hsz) (by have := hzt.out; omega) ?_); intro A4 n4 c4 w4 hO4 hon; have hon : Only (fun b => (Value.slice A3 q c3).ownBlock = some b) wi w4 := ⟨hon.os, hon.tape, hon.output, hon.size, hon.block⟩; obtain rfl : n4 = q + 1 := (by have h5 := hO4.ri.1; have := hzt.out; rw [List.length_append, this] at h5; exact h5.symm); have hne : ∀ p, (Value.slice A3 q c3).ownBlock = some p → rk + 1 ≤ p := (fun p hp => (HO3.out.1.lt p hp).1); have hs4 : wi.heap.size ≤ w4.heap.size := hon.size; have pk2 := (hon.block rk (show rk < wi.heap.size by omega) (fun hc => by have := hne _ hc; omega)).trans PK.out; have pg2 := (hon.block (w.heap.size + 1 + 1 + 1) (show (w.heap.size + 1 + 1 + 1) < wi.heap.size by omega) (fun hc => by have := hne _ hc; omega)).trans PG.out; have r1 := blk_cell pk2 0; have rf1 := blk_free pk2 0; have t21 := blk_cell pg2 2; have tf1 := blk_free pg2 2; simp at r1 t21; have PK2 := hide pk2; have PG2 := hide pg2; clear pk2 pg2; have HO4 := hide hO4; have HON := hide hon; have HNE := hide hne; clear hO4 hon hne))
            go_roundw
            case rel =>
              have hne := HNE.out
              have hon := HON.out
              have pa2 := (hon.block w.heap.size (show w.heap.size < wi.heap.size by omega) (fun hc => by have := hne _ hc; omega)).trans PA.out
              have pb2 := (hon.block (w.heap.size + 1) (show w.heap.size + 1 < wi.heap.size by omega) (fun hc => by have := hne _ hc; omega)).trans PB.out
              have pr2 := (hon.block (w.heap.size + 1 + 1) (show w.heap.size + 1 + 1 < wi.heap.size by omega) (fun hc => by have := hne _ hc; omega)).trans PR.out
              have onF := ((Only.refl (fun b => b = rk ∨ b = (w.heap.size + 1 + 1 + 1)) w4).set rk 0 (.inl rfl) (.slice A4 (q + 1) c4))
              exact ⟨q + 1, by omega, by go_num, ⟨_, _, _, blk_far (blk_set PK2.out 0 _) (by omega) _, by
                  rw [HZ1.out]
                  exact (HO4.out.only (onF.set (w.heap.size + 1 + 1 + 1) 2 (.inr rfl) _) (fun p h1 h2 h3 => by omega)).more (Nat.le_refl _) (by simp [World.setCell]), blk_set (blk_far PG2.out (by omega) _) 2 _, hide (by rw [HZ2.out]; simp)⟩,
                blk_far (blk_far pa2 (by omega) _) (by omega) _, blk_far (blk_far pb2 (by omega) _) (by omega) _, blk_far (blk_far pr2 (by omega) _) (by omega) _,
                (HOWN.out.only (w := wi) hon (fun p h1 h2 h3 => by have := hne _ h3; omega)).only (onF.set (w.heap.size + 1 + 1 + 1) 2 (.inr rfl) _) (fun p h1 h2 h3 => by omega),
                below_set (below_set (HBW.out.trans (hon.below (B := w.heap.size) (show w.heap.size ≤ wi.heap.size by omega) (fun p hp h3 => by have := hne _ h3; omega))) _ _ (by omega) _) _ _ (by omega) _, by simp only [World.setCell, Array.size_modify]; omega⟩
            case measure => simp [intOf]; omega
        · obtain rfl : q = m2 := by omega
          have hd : (decide (q < nx) = false) ∨ (decide (q < nx) = true ∧ decide (q < ny) = false) := by
            rcases HMM.out with h | h
            · exact .inl (by simp; omega)
            · by_cases hh : q < nx
              · exact .inr ⟨by simpa using hh, by simp; omega⟩
              · exact .inl (by simpa using hh)
          have HT := hide (show zk.take q = zk from List.take_of_length_le (by rw [HZKL.out]; omega))
          have HFC := hide (show (s0 || (gs.take (k + 1)).any id) = fc from by rw [HS.out, hfc.out, List.take_of_length_le (by rw [HQL.out]; omega), HQA.out])
          rw [HT.out] at hO3
          have HU := hide (FOs.one (FO.of_oi (hO3.more (show rk ≤ rk + 1 by omega) (Nat.le_refl _))))
          have HOWN := hide hown
          have PG := hide pg
          have PA := hide pa
          have PB := hide pb
          have PR := hide pr
          have HBW := hide hb
          clear hfc hO3 hown pk pg pa pb pr hb t2 tf
          rcases hd with hd1 | ⟨hd1, hd2⟩
          all_goals
            have gate0 : True := trivial
            go_wp2_with (first
              | (at_builtin; clear gate0; go_must (refine wpList_pushL wi [.slice A3 q c3] [.s zk] rfl (.tmp 92) (.tmp 94) _ rfl 3 90 1 24 _ Try.underlying30 row_info rfl (by omega) (by omega) rfl HOWN.out HU.out rfl rfl (by omega) (by omega) (by omega) ?_); intro A4 c4 w2 hO4 hon _; have hne : ∀ p, (Value.slice A1 k c1).ownBlock = some p → (w.heap.size + 1 + 1 + 1) + 1 ≤ p := (fun p hp => (HOWN.out.lt p hp).1); have hs2 := hon.size; have pg2 := (hon.block (w.heap.size + 1 + 1 + 1) (by omega) (fun hc => by have := hne _ hc; omega)).trans PG.out; have t01 := blk_cell pg2 0; have v01 := blk_free pg2 0; simp at t01; have PG2 := hide pg2; clear pg2; have HO4 := hide hO4; have HON := hide hon; have HNE := hide hne; clear hO4 hon hne))
            go_roundw
            case rel =>
              have hne := HNE.out
              have hon := HON.out
              have pa2 := (hon.block w.heap.size (by omega) (fun hc => by have := hne _ hc; omega)).trans PA.out
              have pb2 := (hon.block (w.heap.size + 1) (by omega) (fun hc => by have := hne _ hc; omega)).trans PB.out
              have pr2 := (hon.block (w.heap.size + 1 + 1) (by omega) (fun hc => by have := hne _ hc; omega)).trans PR.out
              exact ⟨k + 1, by omega, by go_num, ⟨_, _, _, blk_set PG2.out 0 _, hide HFC.out.symm, by
                  rw [HV.out]
                  exact (HO4.out.only ((Only.refl (fun b => b = (w.heap.size + 1 + 1 + 1)) w2).set (w.heap.size + 1 + 1 + 1) 0 rfl _) (fun p h1 h2 h3 => by have h4 : p = (w.heap.size + 1 + 1 + 1) := h3; omega)).more (Nat.le_refl _) (by simp [World.setCell])⟩,
                blk_far pa2 (by omega) _, blk_far pb2 (by omega) _, blk_far pr2 (by omega) _,
                below_set (HBW.out.trans (hon.below (B := w.heap.size) (by omega) (fun p hp h3 => by have := hne _ h3; omega))) _ _ (by omega) _, by simp only [World.setCell, Array.size_modify]; omega⟩
            case measure => simp [intOf]; omega
    · obtain rfl : k = m := by omega
      have hd : (decide (k < n) = false) ∨ (decide (k < n) = true ∧ decide (k < n') = false) := by
        rcases HM3.out with h | h
        · exact .inl (by simp; omega)
        · by_cases hh : k < n
          · exact .inr ⟨by simpa using hh, by simp; omega⟩
          · exact .inl (by simpa using hh)
      have HT := hide (show zs.take k = zs from List.take_of_length_le (by rw [HZL.out]; omega))
      have HTG := hide (show gs.take k = gs from List.take_of_length_le (by rw [HGL.out]; omega))
      have HOW := hide hown
      have PRF := hide pr
      have HBF := hide hb
      have q0 := blk_cell pr 0
      have q1 := blk_cell pr 1
      have q2 := blk_cell pr 2
      have y0 := blk_free pr 0
      have y1 := blk_free pr 1
      have y2 := blk_free pr 2
      have t1 := blk_cell pg 1
      have v1 := blk_free pg 1
      have v2 := blk_free pg 2
      simp at q0 q1 q2 t1
      clear h h' hown pr pg pa pb hb
      rcases hd with hd1 | ⟨hd1, hd2⟩
      all_goals
        go_wp2_with fail
        refine (impl_FixAdd l l' wr).mono ?_
        rintro e w' ⟨rfl, rfl⟩
        cases fb
        · go_wp2_with fail
          refine bodyPost_ret (results_cell_row (P := Try.prog) (d := _) rfl _ _ (w.heap.size + 1 + 1) 32 #[.slice A1 k c1, .int .i64 (fxAdd l l'), .bool (fxAddS l l')] (0, 0) rfl ?_ Try.underlying32 rfl rfl) rfl ?_
          · exact blk_set (blk_set (blk_set (blk_far (blk_far PRF.out (by omega) _) (by omega) _) 0 _) 1 _) 2 _
          · refine giveG (g := addG ⟨xs, l, s⟩ ⟨ys, l', s'⟩) (by rw [HR.out]; exact HZL.out) (by rw [HR.out]) (by rw [HR.out]; have := hfb.out; rw [HTG.out] at this; simp only [← this]; simp) rfl ?_ ?_
            · rw [HR.out, ← HT.out]
              exact (HOW.out.only (p := fun b => b = w.heap.size + 1 + 1 ∨ b = (w.heap.size + 1 + 1 + 1)) (by repeat first | exact Only.refl _ _ | refine onlySet ?_ (by first | exact .inl rfl | exact .inr rfl) _) (fun q h1 h2 h3 => by omega)).more (by omega) (by simp [World.setCell])
            · exact below_set (below_set (below_set (below_set (below_set HBF.out _ _ (by omega) _) _ _ (by omega) _) _ _ (by omega) _) _ _ (by omega) _) _ _ (by omega) _
        · go_wp2_with fail
          refine bodyPost_ret (results_cell_row (P := Try.prog) (d := _) rfl _ _ (w.heap.size + 1 + 1) 32 #[.slice A1 k c1, .int .i64 (fxAdd l l'), .bool true] (0, 0) rfl ?_ Try.underlying32 rfl rfl) rfl ?_
          · exact blk_set (blk_set (blk_set (blk_far (blk_far PRF.out (by omega) _) (by omega) _) 0 _) 1 _) 2 _
          · refine giveG (g := addG ⟨xs, l, s⟩ ⟨ys, l', s'⟩) (by rw [HR.out]; exact HZL.out) (by rw [HR.out]) (by rw [HR.out]; have := hfb.out; rw [HTG.out] at this; simp only [← this]; simp) rfl ?_ ?_
            · rw [HR.out, ← HT.out]
              exact (HOW.out.only (p := fun b => b = w.heap.size + 1 + 1 ∨ b = (w.heap.size + 1 + 1 + 1)) (by repeat first | exact Only.refl _ _ | refine onlySet ?_ (by first | exact .inl rfl | exact .inr rfl) _) (fun q h1 h2 h3 => by omega)).more (by omega) (by simp [World.setCell])
            · exact below_set (below_set (below_set (below_set (below_set HBF.out _ _ (by omega) _) _ _ (by omega) _) _ _ (by omega) _) _ _ (by omega) _) _ _ (by omega) _
end Go.Proofs.Ytehfglfbnjdcoaa
