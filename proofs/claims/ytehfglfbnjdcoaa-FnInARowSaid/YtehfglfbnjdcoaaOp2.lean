/-
  The contract of impl.OpOk.
-/
import Derived.Test.YtehfglfbnjdcoaaOp
import Derived.Test.YtehfglfbnjdcoaaVec
import Derived.WalkKit
import Derived.BigQuiet
import Derived.Lib.QuietBelow
namespace Go.Proofs.Ytehfglfbnjdcoaa
open Go.RowKit Go.Sort
set_option maxRecDepth 100000

set_option maxHeartbeats 2000000 in
theorem impl_OpOk {B n cap : Nat} {A : Option Addr} {xs : List Int} (k i o : Int) (w : World) (h : RI w B A n cap xs) (hB : B ≤ w.heap.size) (hn : n ≤ 1048576) :
    Calls Try.prog 90 #[Opv k i o A n cap] w fun e w' => e = .returned (.bool (okO k i o xs)) ∧ Below w.heap.size w w' := by
  have hl := hide h.1
  obtain ⟨wb, hwb⟩ : ∃ wb, wb = (w.alloc (.cells #[.int .i64 k, .int .i64 i, .int .i64 o, .slice A n cap] 52)) := ⟨_, rfl⟩
  have hb : Below w.heap.size w wb := hwb ▸ (Below.refl _ _).alloc (Nat.le_refl _) _
  have x0 : wb.cell? ⟨w.heap.size, 0, none⟩ = some (.int .i64 k) := by rw [hwb]; simp
  have x1 : wb.cell? ⟨w.heap.size, 1, none⟩ = some (.int .i64 i) := by rw [hwb]; simp
  have x2 : wb.cell? ⟨w.heap.size, 2, none⟩ = some (.int .i64 o) := by rw [hwb]; simp
  have x3 : wb.cell? ⟨w.heap.size, 3, none⟩ = some (.slice A n cap) := by rw [hwb]; simp
  have hsb := hb.size
  have HW := hide hwb
  clear hwb
  by_cases c0 : k < 1
  · have HB : Below w.heap.size w (w.alloc (.cells #[.int .i64 k, .int .i64 i, .int .i64 o, .slice A n cap] 52)) := HW.out ▸ hb
    go_enter Try.func90, Try.ntmps90
    go_wp2_with fail
    go_ret
    exact ⟨rB (by rw [okO, decide_eq_false (by omega)]; rfl), HB⟩
  by_cases c1 : 5 < k
  · have HB : Below w.heap.size w (w.alloc (.cells #[.int .i64 k, .int .i64 i, .int .i64 o, .slice A n cap] 52)) := HW.out ▸ hb
    go_enter Try.func90, Try.ntmps90
    go_wp2_with fail
    go_ret
    exact ⟨rB (by rw [okO, decide_eq_false (by omega)]; rfl), HB⟩
  by_cases c2 : i < 1
  · have HB : Below w.heap.size w (w.alloc (.cells #[.int .i64 k, .int .i64 i, .int .i64 o, .slice A n cap] 52)) := HW.out ▸ hb
    go_enter Try.func90, Try.ntmps90
    go_wp2_with fail
    go_ret
    exact ⟨rB (by rw [okO, decide_eq_false (by omega)]; rfl), HB⟩
  by_cases c3 : 6 < i
  · have HB : Below w.heap.size w (w.alloc (.cells #[.int .i64 k, .int .i64 i, .int .i64 o, .slice A n cap] 52)) := HW.out ▸ hb
    go_enter Try.func90, Try.ntmps90
    go_wp2_with fail
    go_ret
    exact ⟨rB (by rw [okO, decide_eq_false (by omega)]; rfl), HB⟩
  by_cases c4 : o < 1
  · have HB : Below w.heap.size w (w.alloc (.cells #[.int .i64 k, .int .i64 i, .int .i64 o, .slice A n cap] 52)) := HW.out ▸ hb
    go_enter Try.func90, Try.ntmps90
    go_wp2_with fail
    go_ret
    exact ⟨rB (by rw [okO, decide_eq_false (by omega)]; rfl), HB⟩
  by_cases c5 : 6 < o
  · have HB : Below w.heap.size w (w.alloc (.cells #[.int .i64 k, .int .i64 i, .int .i64 o, .slice A n cap] 52)) := HW.out ▸ hb
    go_enter Try.func90, Try.ntmps90
    go_wp2_with fail
    go_ret
    exact ⟨rB (by rw [okO, decide_eq_false (by omega)]; rfl), HB⟩
  by_cases c6 : k = 1 ∨ i = o
  case neg =>
    have HB : Below w.heap.size w (w.alloc (.cells #[.int .i64 k, .int .i64 i, .int .i64 o, .slice A n cap] 52)) := HW.out ▸ hb
    have d1 : (k == 1) = false := by simp; omega
    have d2 : (i == o) = false := by simp; omega
    have d1' : (k != 1) = true := by simp; omega
    have d2' : (i != o) = true := by simp; omega
    go_enter Try.func90, Try.ntmps90
    go_wp2_with fail
    go_ret
    exact ⟨rB (by rw [okO, decide_eq_false (by omega)]; rfl), HB⟩
  have HOK := hide (show okO k i o xs = (decide ((n : Int) = opSize k i o) && xs.all fxOk) from by
    rw [okO, hl.out]
    by_cases h5 : (n : Int) = opSize k i o
    · rw [decide_eq_true (show (1 ≤ k ∧ k ≤ 5 ∧ 1 ≤ i ∧ i ≤ 6 ∧ 1 ≤ o ∧ o ≤ 6 ∧ (k = 1 ∨ i = o) ∧ (n : Int) = opSize k i o) from ⟨by omega, by omega, by omega, by omega, by omega, by omega, c6, h5⟩), decide_eq_true h5]
    · rw [decide_eq_false (fun h => h5 h.2.2.2.2.2.2.2), decide_eq_false h5])
  have hd : (k != 1) = false ∨ (k != 1) = true ∧ (i != o) = false := by
    by_cases hk : k = 1
    · exact .inl (by simp [hk])
    · exact .inr ⟨by simp [hk], by simp; omega⟩
  have k0 := cell_regrown x0
  have k1 := cell_regrown x1
  have k2 := cell_regrown x2
  have k3 := cell_regrown x3
  have cF : ∀ d os, Calls Try.prog 136 #[.slice A n cap] (grow (redrawn wb d) os) fun e w'' => e = .returned (.bool (xs.all fxOk)) ∧ ∃ p : Regrown, w'' = grow (redrawn wb p.d) p.os :=
    fun d os => Calls.regrown_of ((impl_allFix _ ((h.below (hb.mono hB)).below ((below_regrown wb d os).mono (by omega))) hn).mono fun e w' ⟨he, hw⟩ => ⟨he, hw ▸ Below.refl _ _⟩)
  clear c6 h
  obtain ⟨z, hz⟩ : ∃ z, z = opSize k i o := ⟨_, rfl⟩
  have cS : ∀ d os, Calls Try.prog 63 #[Opv k i o A n cap] (grow (redrawn wb d) os) fun e w'' => e = .returned (.int .i64 z) ∧ ∃ p : Regrown, w'' = grow (redrawn wb p.d) p.os :=
    fun d os => Calls.regrown_of (hz ▸ impl_OpSize k i o A n cap _)
  rw [← hz] at HOK
  clear hz
  have CF := hide cF
  have CS := hide cS
  clear cF cS
  rcases hd with hd1 | ⟨hd1, hd2⟩
  all_goals
    by_cases h5 : (n : Int) = z
    · have h5' : ((n : Int) == z) = true := by simp [h5]
      have H5 := hide h5
      clear h5
      go_enter Try.func90, Try.ntmps90
      go_wp2_with fail
      rw [← HW.out]
      refine wp_region_quiet_below (by kernel_rfl) (by kernel_rfl) ?_
      repeat (go_big_quiet_step (first | with_reducible exact CF.out _ _ | with_reducible exact CS.out _ _))
      refine wpQuiet_nil ?_
      intro _ hw'
      obtain ⟨⟨dq, osq⟩, hw''⟩ := hw'
      subst hw''
      have hq_w2 := below_regrown wb dq osq
      generalize grow (redrawn wb dq) osq = w2 at *
      go_wp2_with fail
      go_ret
      exact ⟨rB (by rw [HOK.out, H5.out]; simp), hb.trans (hq_w2.mono hsb)⟩
    · have h5' : ((n : Int) == z) = false := by simp [h5]
      have H5 := hide h5
      clear h5
      go_enter Try.func90, Try.ntmps90
      go_wp2_with fail
      rw [← HW.out]
      refine wp_region_quiet_below (by kernel_rfl) (by kernel_rfl) ?_
      repeat (go_big_quiet_step (first | with_reducible exact CF.out _ _ | with_reducible exact CS.out _ _))
      refine wpQuiet_nil ?_
      intro _ hw'
      obtain ⟨⟨dq, osq⟩, hw''⟩ := hw'
      subst hw''
      have hq_w2 := below_regrown wb dq osq
      generalize grow (redrawn wb dq) osq = w2 at *
      go_wp2_with fail
      go_ret
      exact ⟨rB (by rw [HOK.out, decide_eq_false H5.out]; simp), hb.trans (hq_w2.mono hsb)⟩
end Go.Proofs.Ytehfglfbnjdcoaa
