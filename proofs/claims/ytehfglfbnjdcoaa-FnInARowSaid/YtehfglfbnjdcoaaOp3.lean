/-
  The contract of spec.OpOk.
-/
import Derived.Test.YtehfglfbnjdcoaaOp
import Derived.Test.YtehfglfbnjdcoaaVec
import Derived.WalkKit
import Derived.BigQuiet
import Derived.Lib.QuietBelow
namespace Go.Proofs.Ytehfglfbnjdcoaa
open Go.RowKit Go.Sort
set_option maxRecDepth 100000

set_option maxHeartbeats 2000000 in
theorem spec_OpOk {B n cap : Nat} {A : Option Addr} {xs : List Int} (k i o : Int) (w : World) (h : RI w B A n cap xs) (hB : B ≤ w.heap.size) (_hn : n ≤ 1048576) :
    Calls Try.prog 61 #[Opv k i o A n cap] w fun e w' => e = .returned (.bool (okO k i o xs)) ∧ Below w.heap.size w w' := by
  have hl := hide h.1
  obtain ⟨wb, hwb⟩ : ∃ wb, wb = (w.alloc (.cells #[.int .i64 k, .int .i64 i, .int .i64 o, .slice A n cap] 52)) := ⟨_, rfl⟩
  have hb : Below w.heap.size w wb := hwb ▸ (Below.refl _ _).alloc (Nat.le_refl _) _
  have x0 : wb.cell? ⟨w.heap.size, 0, none⟩ = some (.int .i64 k) := by rw [hwb]; simp
  have x1 : wb.cell? ⟨w.heap.size, 1, none⟩ = some (.int .i64 i) := by rw [hwb]; simp
  have x2 : wb.cell? ⟨w.heap.size, 2, none⟩ = some (.int .i64 o) := by rw [hwb]; simp
  have x3 : wb.cell? ⟨w.heap.size, 3, none⟩ = some (.slice A n cap) := by rw [hwb]; simp
  have hsb := hb.size
  have HW := hide hwb
  clear hwb
  have k0 := cell_regrown x0
  have k1 := cell_regrown x1
  have k2 := cell_regrown x2
  have k3 := cell_regrown x3
  by_cases c0 : 1 ≤ k ∧ k ≤ 5
  case neg =>
    have cN : ∀ d os, Calls Try.prog 115 #[.int .i64 k, .int .i64 1, .int .i64 5] (grow (redrawn wb d) os) fun e w'' => e = .returned (.bool false) ∧ ∃ p : Regrown, w'' = grow (redrawn wb p.d) p.os :=
      fun d os => Calls.regrown_of ((spec_l1In_no k 1 5 _ (by omega)).mono fun e w' ⟨he, hw⟩ => ⟨he, hw ▸ Below.refl _ _⟩)
    have CN := hide cN
    clear cN
    go_enter Try.func61, Try.ntmps61
    go_wp2_with fail
    rw [← HW.out]
    refine wp_region_quiet_below (by kernel_rfl) (by kernel_rfl) ?_
    repeat (go_big_quiet_step (first | with_reducible exact CN.out _ _))
    refine wpQuiet_nil ?_
    intro _ hw'
    obtain ⟨⟨dq, osq⟩, hw''⟩ := hw'
    subst hw''
    have hq_w2 := below_regrown wb dq osq
    generalize grow (redrawn wb dq) osq = w2 at *
    go_wp2_with fail
    go_ret
    exact ⟨rB (by rw [okO, decide_eq_false (by omega)]; rfl), hb.trans (hq_w2.mono hsb)⟩
  have c_k : ∀ d os, Calls Try.prog 115 #[.int .i64 k, .int .i64 1, .int .i64 5] (grow (redrawn wb d) os) fun e w'' => e = .returned (.bool true) ∧ ∃ p : Regrown, w'' = grow (redrawn wb p.d) p.os :=
    fun d os => Calls.regrown_of ((spec_l1In_yes k 1 5 _ (by omega) (by omega)).mono fun e w' ⟨he, hw⟩ => ⟨he, hw ▸ Below.refl _ _⟩)
  have C_k := hide c_k
  clear c_k
  by_cases c1 : 1 ≤ i ∧ i ≤ 6
  case neg =>
    have cN : ∀ d os, Calls Try.prog 115 #[.int .i64 i, .int .i64 1, .int .i64 6] (grow (redrawn wb d) os) fun e w'' => e = .returned (.bool false) ∧ ∃ p : Regrown, w'' = grow (redrawn wb p.d) p.os :=
      fun d os => Calls.regrown_of ((spec_l1In_no i 1 6 _ (by omega)).mono fun e w' ⟨he, hw⟩ => ⟨he, hw ▸ Below.refl _ _⟩)
    have CN := hide cN
    clear cN
    go_enter Try.func61, Try.ntmps61
    go_wp2_with fail
    rw [← HW.out]
    refine wp_region_quiet_below (by kernel_rfl) (by kernel_rfl) ?_
    repeat (go_big_quiet_step (first | with_reducible exact C_k.out _ _ | with_reducible exact CN.out _ _))
    refine wpQuiet_nil ?_
    intro _ hw'
    obtain ⟨⟨dq, osq⟩, hw''⟩ := hw'
    subst hw''
    have hq_w2 := below_regrown wb dq osq
    generalize grow (redrawn wb dq) osq = w2 at *
    go_wp2_with fail
    go_ret
    exact ⟨rB (by rw [okO, decide_eq_false (by omega)]; rfl), hb.trans (hq_w2.mono hsb)⟩
  have c_i : ∀ d os, Calls Try.prog 115 #[.int .i64 i, .int .i64 1, .int .i64 6] (grow (redrawn wb d) os) fun e w'' => e = .returned (.bool true) ∧ ∃ p : Regrown, w'' = grow (redrawn wb p.d) p.os :=
    fun d os => Calls.regrown_of ((spec_l1In_yes i 1 6 _ (by omega) (by omega)).mono fun e w' ⟨he, hw⟩ => ⟨he, hw ▸ Below.refl _ _⟩)
  have C_i := hide c_i
  clear c_i
  by_cases c2 : 1 ≤ o ∧ o ≤ 6
  case neg =>
    have cN : ∀ d os, Calls Try.prog 115 #[.int .i64 o, .int .i64 1, .int .i64 6] (grow (redrawn wb d) os) fun e w'' => e = .returned (.bool false) ∧ ∃ p : Regrown, w'' = grow (redrawn wb p.d) p.os :=
      fun d os => Calls.regrown_of ((spec_l1In_no o 1 6 _ (by omega)).mono fun e w' ⟨he, hw⟩ => ⟨he, hw ▸ Below.refl _ _⟩)
    have CN := hide cN
    clear cN
    go_enter Try.func61, Try.ntmps61
    go_wp2_with fail
    rw [← HW.out]
    refine wp_region_quiet_below (by kernel_rfl) (by kernel_rfl) ?_
    repeat (go_big_quiet_step (first | with_reducible exact C_k.out _ _ | with_reducible exact C_i.out _ _ | with_reducible exact CN.out _ _))
    refine wpQuiet_nil ?_
    intro _ hw'
    obtain ⟨⟨dq, osq⟩, hw''⟩ := hw'
    subst hw''
    have hq_w2 := below_regrown wb dq osq
    generalize grow (redrawn wb dq) osq = w2 at *
    go_wp2_with fail
    go_ret
    exact ⟨rB (by rw [okO, decide_eq_false (by omega)]; rfl), hb.trans (hq_w2.mono hsb)⟩
  have c_o : ∀ d os, Calls Try.prog 115 #[.int .i64 o, .int .i64 1, .int .i64 6] (grow (redrawn wb d) os) fun e w'' => e = .returned (.bool true) ∧ ∃ p : Regrown, w'' = grow (redrawn wb p.d) p.os :=
    fun d os => Calls.regrown_of ((spec_l1In_yes o 1 6 _ (by omega) (by omega)).mono fun e w' ⟨he, hw⟩ => ⟨he, hw ▸ Below.refl _ _⟩)
  have C_o := hide c_o
  clear c_o
  by_cases c6 : k = 1 ∨ i = o
  case neg =>
    have d1 : (k != 1) = true := by simp; omega
    have d2 : (i != o) = true := by simp; omega
    go_enter Try.func61, Try.ntmps61
    go_wp2_with fail
    rw [← HW.out]
    refine wp_region_quiet_below (by kernel_rfl) (by kernel_rfl) ?_
    repeat (go_big_quiet_step (first | with_reducible exact C_k.out _ _ | with_reducible exact C_i.out _ _ | with_reducible exact C_o.out _ _))
    refine wpQuiet_nil ?_
    intro _ hw'
    obtain ⟨⟨dq, osq⟩, hw''⟩ := hw'
    subst hw''
    have hq_w2 := below_regrown wb dq osq
    generalize grow (redrawn wb dq) osq = w2 at *
    go_wp2_with fail
    go_ret
    exact ⟨rB (by rw [okO, decide_eq_false (by omega)]; rfl), hb.trans (hq_w2.mono hsb)⟩
  have HOK := hide (show okO k i o xs = (decide ((n : Int) = opSize k i o) && xs.all fxOk) from by
    rw [okO, hl.out]
    by_cases h5 : (n : Int) = opSize k i o
    · rw [decide_eq_true (show (1 ≤ k ∧ k ≤ 5 ∧ 1 ≤ i ∧ i ≤ 6 ∧ 1 ≤ o ∧ o ≤ 6 ∧ (k = 1 ∨ i = o) ∧ (n : Int) = opSize k i o) from ⟨by omega, by omega, by omega, by omega, by omega, by omega, c6, h5⟩), decide_eq_true h5]
    · rw [decide_eq_false (fun h => h5 h.2.2.2.2.2.2.2), decide_eq_false h5])
  have hd : (k != 1) = false ∨ (k != 1) = true ∧ (i != o) = false := by
    by_cases hk : k = 1
    · exact .inl (by simp [hk])
    · exact .inr ⟨by simp [hk], by simp; omega⟩
  have hR := hide (fun (W : World) (hW : Below w.heap.size w W) => h.below (hW.mono hB))
  clear c6 h
  have hzb := opSize_bd k i o
  obtain ⟨z, hz⟩ : ∃ z, z = opSize k i o := ⟨_, rfl⟩
  have cS : ∀ d os, Calls Try.prog 124 #[Opv k i o A n cap] (grow (redrawn wb d) os) fun e w'' => e = .returned (.int .i64 z) ∧ ∃ p : Regrown, w'' = grow (redrawn wb p.d) p.os :=
    fun d os => Calls.regrown_of (hz ▸ spec_OpSize k i o A n cap _)
  have CS := hide cS
  clear cS
  rw [← hz] at HOK hzb
  clear hz
  rcases hd with hd1 | ⟨hd1, hd2⟩
  all_goals
    by_cases h5 : (n : Int) = z
    · have h5' : ((n : Int) != z) = false := by simp [h5]
      have H5 := hide h5
      have hn36 : n ≤ 36 := by omega
      clear h5
      go_enter Try.func61, Try.ntmps61
      go_wp2_with fail
      rw [← HW.out]
      refine wp_region_quiet_below (by kernel_rfl) (by kernel_rfl) ?_
      repeat (go_big_quiet_step (first | with_reducible exact C_k.out _ _ | with_reducible exact C_i.out _ _ | with_reducible exact C_o.out _ _ | with_reducible exact CS.out _ _))
      refine wpQuiet_nil ?_
      intro _ hw'
      obtain ⟨⟨dq, osq⟩, hw''⟩ := hw'
      subst hw''
      have hq_w2 := below_regrown wb dq osq
      generalize grow (redrawn wb dq) osq = w2 at *
      have hRR := hR.out _ (hb.trans (hq_w2.mono hsb))
      have HB1 := hb.trans (hq_w2.mono hsb)
      replace x0 := cellB hq_w2 x0
      replace x1 := cellB hq_w2 x1
      replace x2 := cellB hq_w2 x2
      replace x3 := cellB hq_w2 x3
      clear k0 k1 k2 k3 hq_w2
      go_wp2_with fail
      go_loop [3] (fun i => ∃ k : Nat, k ≤ n ∧ i = .int .i64 (k : Int) ∧ Hid (∀ j, j < k → fxOk (xs.getD j 0) = true)) (fun i => n - (intOf i).toNat)
      case atStart => exact ⟨0, Nat.zero_le _, rfl, fun j hj => absurd hj (by omega)⟩
      case round =>
        obtain ⟨k, hk, rfl, hall⟩ := hrel
        by_cases hlt : k < n
        · obtain ⟨b, off, rfl, hbB, hc⟩ := hRR.at_ hlt
          obtain ⟨x, hx⟩ : ∃ x, x = xs.getD k 0 := ⟨_, rfl⟩
          rw [← hx] at hc
          have HX := hide hx
          clear hx hRR
          cases hf : fxOk x with
          | true =>
            go_wp2_with (go_at_call 125; refine (spec_FixOk _ _).mono ?_; rintro e w' ⟨rfl, rfl⟩)
            go_round
            case rel => exact ⟨k + 1, by omega, by go_num, fun j hj => by
              by_cases hjk : j < k
              · exact hall.out j hjk
              · obtain rfl : j = k := by omega
                rw [← HX.out]; exact hf⟩
            case measure => simp [intOf]; omega
          | false =>
            go_wp2_with (go_at_call 125; refine (spec_FixOk _ _).mono ?_; rintro e w' ⟨rfl, rfl⟩)
            go_ret
            exact ⟨rB (by have := all_no (by rw [hl.out]; exact hlt) (show fxOk (xs.getD k 0) = false from by rw [← HX.out]; exact hf); rw [HOK.out, this]; simp), HB1⟩
        · obtain rfl : k = n := by omega
          clear hRR
          go_wp2_with fail
          go_ret
          exact ⟨rB (by have := all_upto hl.out hall.out; rw [HOK.out, this, decide_eq_true H5.out]; rfl), HB1⟩
    · have h5' : ((n : Int) != z) = true := by simp [h5]
      have H5 := hide h5
      clear h5
      go_enter Try.func61, Try.ntmps61
      go_wp2_with fail
      rw [← HW.out]
      refine wp_region_quiet_below (by kernel_rfl) (by kernel_rfl) ?_
      repeat (go_big_quiet_step (first | with_reducible exact C_k.out _ _ | with_reducible exact C_i.out _ _ | with_reducible exact C_o.out _ _ | with_reducible exact CS.out _ _))
      refine wpQuiet_nil ?_
      intro _ hw'
      obtain ⟨⟨dq, osq⟩, hw''⟩ := hw'
      subst hw''
      have hq_w2 := below_regrown wb dq osq
      generalize grow (redrawn wb dq) osq = w2 at *
      go_wp2_with fail
      go_ret
      exact ⟨rB (by rw [HOK.out, decide_eq_false H5.out]; simp), hb.trans (hq_w2.mono hsb)⟩
end Go.Proofs.Ytehfglfbnjdcoaa
