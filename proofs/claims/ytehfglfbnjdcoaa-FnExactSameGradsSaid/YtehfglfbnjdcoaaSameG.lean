/-
  The contracts of SameGrads.
-/
import Derived.Test.YtehfglfbnjdcoaaGrads
import Derived.Test.YtehfglfbnjdcoaaRows2
import Derived.WalkKit
namespace Go.Proofs.Ytehfglfbnjdcoaa
open Go.RowKit
set_option maxRecDepth 100000

set_option maxHeartbeats 1000000 in
theorem impl_SameGrads {B n c B' n' c' : Nat} {A A' : Option Addr} {xs ys : List (List Int)} (l l' : Int) (s s' : Bool) (w : World) (h : RL 1 w B A n c (xs.flatMap rowF)) (h' : RL 1 w B' A' n' c' (ys.flatMap rowF)) (hB : B ≤ w.heap.size) (hB' : B' ≤ w.heap.size) (hn : n ≤ 1048576) (hn' : n' ≤ 1048576) (hsm : SmR xs) (hsm' : SmR ys) :
    Calls Try.prog 51 #[Grv A n c l s, Grv A' n' c' l' s'] w fun e w' => e = .returned (.bool (decide (xs = ys) && decide (l = l') && decide (s = s'))) ∧ Below w.heap.size w w' := by
  obtain ⟨wb, hwb⟩ : ∃ wb, wb = ((w.alloc (.cells #[.slice A n c, .int .i64 l, .bool s] 32)).alloc (.cells #[.slice A' n' c', .int .i64 l', .bool s'] 32)) := ⟨_, rfl⟩
  have hb : Below w.heap.size w wb := hwb ▸ (((Below.refl _ _).alloc (Nat.le_refl _) _).alloc (by simp) _)
  have x0 : wb.cell? ⟨w.heap.size, 0, none⟩ = some (.slice A n c) := by rw [hwb]; simp
  have x1 : wb.cell? ⟨w.heap.size, 1, none⟩ = some (.int .i64 l) := by rw [hwb]; simp
  have x2 : wb.cell? ⟨w.heap.size, 2, none⟩ = some (.bool s) := by rw [hwb]; simp
  have y0 : wb.cell? ⟨w.heap.size + 1, 0, none⟩ = some (.slice A' n' c') := by rw [hwb]; simp
  have y1 : wb.cell? ⟨w.heap.size + 1, 1, none⟩ = some (.int .i64 l') := by rw [hwb]; simp
  have y2 : wb.cell? ⟨w.heap.size + 1, 2, none⟩ = some (.bool s') := by rw [hwb]; simp
  have HE := hide (impl_SameRows wb (h.below (hb.mono hB)) (h'.below (hb.mono hB')) (by have := hb.size; omega) (by have := hb.size; omega) hn hn' hsm hsm')
  have HB := hide hb
  have HW := hide hwb
  obtain ⟨q, hq⟩ : ∃ q, decide (xs = ys) = q := ⟨_, rfl⟩
  rw [hq] at HE ⊢
  clear h h' hn hn' hsm hsm' hb hwb hq
  by_cases hl : l = l'
  · subst hl
    cases q <;> cases s <;> cases s'
    all_goals
      go_enter Try.func51, Try.ntmps51
      go_wp2_with fail
      rw [← HW.out]
      refine HE.out.mono ?_
      rintro e w2 ⟨rfl, hb2⟩
      replace x1 := cellB hb2 x1
      replace x2 := cellB hb2 x2
      replace y1 := cellB hb2 y1
      replace y2 := cellB hb2 y2
      have HB2 := hide (HB.out.trans (hb2.mono HB.out.size))
      go_wp2_with fail
      go_ret
      exact ⟨rB (by simp), HB2.out⟩
  · have hd : (l == l') = false := by simpa using hl
    have HD := hide (show decide (l = l') = false from decide_eq_false hl)
    rw [HD.out]
    clear hl
    cases q <;> cases s <;> cases s'
    all_goals
      go_enter Try.func51, Try.ntmps51
      go_wp2_with fail
      rw [← HW.out]
      refine HE.out.mono ?_
      rintro e w2 ⟨rfl, hb2⟩
      replace x1 := cellB hb2 x1
      replace x2 := cellB hb2 x2
      replace y1 := cellB hb2 y1
      replace y2 := cellB hb2 y2
      have HB2 := hide (HB.out.trans (hb2.mono HB.out.size))
      go_wp2_with fail
      go_ret
      exact ⟨rB (by simp), HB2.out⟩
set_option maxHeartbeats 1000000 in
theorem spec_SameGrads {B n c B' n' c' : Nat} {A A' : Option Addr} {xs ys : List (List Int)} (l l' : Int) (s s' : Bool) (w : World) (h : RL 1 w B A n c (xs.flatMap rowF)) (h' : RL 1 w B' A' n' c' (ys.flatMap rowF)) (hB : B ≤ w.heap.size) (hB' : B' ≤ w.heap.size) (hn : n ≤ 1048576) (hn' : n' ≤ 1048576) (hsm : SmR xs) (hsm' : SmR ys) :
    Calls Try.prog 50 #[Grv A n c l s, Grv A' n' c' l' s'] w fun e w' => e = .returned (.bool (decide (xs = ys) && decide (l = l') && decide (s = s'))) ∧ Below w.heap.size w w' := by
  obtain ⟨wb, hwb⟩ : ∃ wb, wb = ((w.alloc (.cells #[.slice A n c, .int .i64 l, .bool s] 32)).alloc (.cells #[.slice A' n' c', .int .i64 l', .bool s'] 32)) := ⟨_, rfl⟩
  have hb : Below w.heap.size w wb := hwb ▸ (((Below.refl _ _).alloc (Nat.le_refl _) _).alloc (by simp) _)
  have x0 : wb.cell? ⟨w.heap.size, 0, none⟩ = some (.slice A n c) := by rw [hwb]; simp
  have x1 : wb.cell? ⟨w.heap.size, 1, none⟩ = some (.int .i64 l) := by rw [hwb]; simp
  have x2 : wb.cell? ⟨w.heap.size, 2, none⟩ = some (.bool s) := by rw [hwb]; simp
  have y0 : wb.cell? ⟨w.heap.size + 1, 0, none⟩ = some (.slice A' n' c') := by rw [hwb]; simp
  have y1 : wb.cell? ⟨w.heap.size + 1, 1, none⟩ = some (.int .i64 l') := by rw [hwb]; simp
  have y2 : wb.cell? ⟨w.heap.size + 1, 2, none⟩ = some (.bool s') := by rw [hwb]; simp
  have HE := hide (spec_SameRows wb (h.below (hb.mono hB)) (h'.below (hb.mono hB')) (by have := hb.size; omega) (by have := hb.size; omega) hn hn' hsm hsm')
  have HB := hide hb
  have HW := hide hwb
  obtain ⟨q, hq⟩ : ∃ q, decide (xs = ys) = q := ⟨_, rfl⟩
  rw [hq] at HE ⊢
  clear h h' hn hn' hsm hsm' hb hwb hq
  by_cases hl : l = l'
  · subst hl
    by_cases hs : s = s'
    · subst hs
      cases q <;> cases s
      all_goals
        go_enter Try.func50, Try.ntmps50
        go_wp2_with fail
        rw [← HW.out]
        refine HE.out.mono ?_
        rintro e w2 ⟨rfl, hb2⟩
        replace x1 := cellB hb2 x1
        replace x2 := cellB hb2 x2
        replace y1 := cellB hb2 y1
        replace y2 := cellB hb2 y2
        have HB2 := hide (HB.out.trans (hb2.mono HB.out.size))
        go_wp2_with fail
        go_ret
        exact ⟨rB (by simp), HB2.out⟩
    · have HD := hide (show decide (s = s') = false from decide_eq_false hs)
      rw [HD.out]
      cases s <;> cases s' <;> first | exact absurd rfl hs | skip
      all_goals clear hs HD
      all_goals
        go_enter Try.func50, Try.ntmps50
        go_wp2_with fail
        go_ret
        exact ⟨rB (by simp), by have := HB.out; rwa [HW.out] at this⟩
  · have hd : (l == l') = false := by simpa using hl
    have HD := hide (show decide (l = l') = false from decide_eq_false hl)
    rw [HD.out]
    clear hl
    go_enter Try.func50, Try.ntmps50
    go_wp2_with fail
    go_ret
    exact ⟨rB (by simp), by have := HB.out; rwa [HW.out] at this⟩
end Go.Proofs.Ytehfglfbnjdcoaa
