/-
  The contracts of impl.ModelOk.
-/
import Derived.Test.YtehfglfbnjdcoaaJPlain
import Derived.Test.YtehfglfbnjdcoaaOpS
import Derived.Test.YtehfglfbnjdcoaaOp2
import Derived.Test.YtehfglfbnjdcoaaOp3
import Derived.WalkKit
import Derived.BigQuiet
import Derived.Lib.QuietBelow
namespace Go.Proofs.Ytehfglfbnjdcoaa
open Go.RowKit Go.Sort
set_option maxRecDepth 100000

set_option maxHeartbeats 1000000 in
theorem impl_ModelOk {B n c : Nat} {A : Option Addr} {ds : List OpD} (w : World) (h : RL 4 w B A n c (ds.flatMap opF)) (hB : B ≤ w.heap.size) (hn : n ≤ 1048576) (hsm : SmO ds) :
    Calls Try.prog 70 #[Modv A n c] w fun e w' => e = .returned (.bool (okMd ds)) ∧ Below w.heap.size w w' := by
  have hl := hide (h.row opF_len (by omega))
  have HSM := hide hsm
  clear hsm
  by_cases c12 : n < 1
  · have HB : Below w.heap.size w (w.alloc (.cells #[.slice A n c] 36)) := (Below.refl _ _).alloc (Nat.le_refl _) _
    have hf := hide (okMd_lo (ds := ds) (by rw [hl.out]; exact c12))
    clear h hn
    go_enter Try.func70, Try.ntmps70
    go_wp2_with fail
    go_ret
    exact ⟨rB hf.out.symm, HB⟩
  by_cases c12 : 8 < n
  · have HB : Below w.heap.size w (w.alloc (.cells #[.slice A n c] 36)) := (Below.refl _ _).alloc (Nat.le_refl _) _
    have hf := hide (okMd_hi (ds := ds) (by rw [hl.out]; exact c12))
    clear h hn
    go_enter Try.func70, Try.ntmps70
    go_wp2_with fail
    go_ret
    exact ⟨rB hf.out.symm, HB⟩
  have hn1 : 1 ≤ n := by omega
  have hn8 : n ≤ 8 := by omega
  clear hn
  obtain ⟨wb, hwb⟩ : ∃ wb, wb = (w.alloc (.cells #[.slice A n c] 36)) := ⟨_, rfl⟩
  have hb0 : Below w.heap.size w wb := hwb ▸ (Below.refl _ _).alloc (Nat.le_refl _) _
  have x0 : wb.cell? ⟨w.heap.size, 0, none⟩ = some (.slice A n c) := by rw [hwb]; simp
  have hsb := hb0.size
  have hlt0 : w.heap.size < wb.heap.size := by rw [hwb]; simp
  have HW := hide hwb
  clear hwb
  go_enter Try.func70, Try.ntmps70
  go_wp2_with fail
  rw [← HW.out]
  go_loopw [18] (fun i wr => ∃ k : Nat, k ≤ n ∧ i = .int .i64 (k : Int) ∧ Hid (∀ j, j < k → okAt ds j = true) ∧ Below wb.heap.size wb wr)
    (fun i _ => n - (intOf i).toNat)
  case atStart => exact ⟨0, Nat.zero_le _, rfl, fun j hj => absurd hj (by omega), Below.refl _ _⟩
  case round =>
    obtain ⟨k, hk, rfl, hall, hb⟩ := hrel
    have hbw : Below w.heap.size w wr := hb0.trans (hb.mono hsb)
    have hsr := hb.size
    have y0 : wr.cell? ⟨w.heap.size, 0, none⟩ = some (.slice A n c) := (hb.cell (p := ⟨w.heap.size, 0, none⟩) hlt0).trans x0
    clear x0
    by_cases hlt : k < n
    · obtain ⟨b, off, d, A1, n1, c1, rfl, hbB, hd, e0, e1, e2, e3, hR⟩ := h.opAt hlt
      have hbk : b < w.heap.size := by omega
      have h1 : (0 : Int) ≤ (k : Int) := by omega
      have h2 : (k : Int) < (n : Int) := by omega
      have z0 := (hbw.cell (p := ⟨b, off + k * 4, none⟩) hbk).trans e0
      have z1 := (hbw.cell (p := ⟨b, off + k * 4 + 1, none⟩) hbk).trans e1
      have z2 := (hbw.cell (p := ⟨b, off + k * 4 + 2, none⟩) hbk).trans e2
      have z3 := (hbw.cell (p := ⟨b, off + k * 4 + 3, none⟩) hbk).trans e3
      have HR := hide (fun (W : World) (hW : Below wr.heap.size wr W) => impl_OpOk d.k d.i d.o W ((hR.below (hbw.mono hB)).below (hW.mono (by omega))) (by have := hW.size; omega) (by rw [← hR.1]; exact HSM.out k d hd))
      have HD := hide hd
      clear e0 e1 e2 e3 hR hd
      have hcase : okOd d = false ∨ (okOd d = true ∧ k = 0) ∨ (okOd d = true ∧ ∃ k', k = k' + 1) := by
        cases hq : okOd d
        · exact .inl rfl
        · cases k with
          | zero => exact .inr (.inl ⟨rfl, rfl⟩)
          | succ k' => exact .inr (.inr ⟨rfl, k', rfl⟩)
      rcases hcase with hq | ⟨hq, hkz⟩ | ⟨hq, k', hkk⟩
      · have HQ := hide hq
        have HF := hide (okMd_no hl.out hlt (okAt_bad HD.out hq))
        clear hq h
        go_wp2_with fail
        obtain ⟨wc, hwc⟩ : ∃ wc, wc = wr.alloc (.cells #[.int .i64 d.k, .int .i64 d.i, .int .i64 d.o, .slice A1 n1 c1] 52) := ⟨_, rfl⟩
        have hbc : Below wr.heap.size wr wc := hwc ▸ (Below.refl _ _).alloc (Nat.le_refl _) _
        have b0 : wc.cell? ⟨wr.heap.size, 0, none⟩ = some (.int .i64 d.k) := by rw [hwc]; simp
        have b1 : wc.cell? ⟨wr.heap.size, 1, none⟩ = some (.int .i64 d.i) := by rw [hwc]; simp
        have b2 : wc.cell? ⟨wr.heap.size, 2, none⟩ = some (.int .i64 d.o) := by rw [hwc]; simp
        have b3 : wc.cell? ⟨wr.heap.size, 3, none⟩ = some (.slice A1 n1 c1) := by rw [hwc]; simp
        rw [← hwc]
        have v0 := cell_regrown b0
        have v1 := cell_regrown b1
        have v2 := cell_regrown b2
        have v3 := cell_regrown b3
        have v4 := cell_regrown (cellB hbc y0)
        have cE : ∀ d1 os, Calls Try.prog 90 #[Opv d.k d.i d.o A1 n1 c1] (grow (redrawn wc d1) os) fun e w'' => e = .returned (.bool false) ∧ ∃ p : Regrown, w'' = grow (redrawn wc p.d) p.os :=
          fun d1 os => Calls.regrown_of ((HR.out _ (hbc.trans ((below_regrown wc d1 os).mono hbc.size))).mono fun e w' ⟨he, hb⟩ => ⟨he.trans (rB HQ.out), hb⟩)
        have CE := hide cE
        clear cE hwc b0 b1 b2 b3 z0 z1 z2 z3 y0
        refine wp_region_quiet_below (by kernel_rfl) (by kernel_rfl) ?_
        repeat (go_big_quiet_step (first | with_reducible exact CE.out _ _))
        refine wpQuiet_nil ?_
        intro _ hw'
        obtain ⟨⟨dq, osq⟩, hw''⟩ := hw'
        subst hw''
        have hq_w2 := below_regrown wc dq osq
        generalize grow (redrawn wc dq) osq = w2 at *
        go_wp2_with fail
        go_ret
        exact ⟨rB HF.out.symm, (hbw.trans ((hbc.trans (hq_w2.mono hbc.size)).mono (by omega)))⟩
      · have HQ := hide hq
        have HF := hide (show okAt ds k = true from by subst hkz; exact (okAt_zero HD.out).trans hq)
        have hdz : decide (0 < k) = false := by simp [hkz]
        have HKZ := hide hkz
        clear hq h hkz
        go_wp2_with fail
        obtain ⟨wc, hwc⟩ : ∃ wc, wc = wr.alloc (.cells #[.int .i64 d.k, .int .i64 d.i, .int .i64 d.o, .slice A1 n1 c1] 52) := ⟨_, rfl⟩
        have hbc : Below wr.heap.size wr wc := hwc ▸ (Below.refl _ _).alloc (Nat.le_refl _) _
        have b0 : wc.cell? ⟨wr.heap.size, 0, none⟩ = some (.int .i64 d.k) := by rw [hwc]; simp
        have b1 : wc.cell? ⟨wr.heap.size, 1, none⟩ = some (.int .i64 d.i) := by rw [hwc]; simp
        have b2 : wc.cell? ⟨wr.heap.size, 2, none⟩ = some (.int .i64 d.o) := by rw [hwc]; simp
        have b3 : wc.cell? ⟨wr.heap.size, 3, none⟩ = some (.slice A1 n1 c1) := by rw [hwc]; simp
        rw [← hwc]
        have v0 := cell_regrown b0
        have v1 := cell_regrown b1
        have v2 := cell_regrown b2
        have v3 := cell_regrown b3
        have v4 := cell_regrown (cellB hbc y0)
        have cE : ∀ d1 os, Calls Try.prog 90 #[Opv d.k d.i d.o A1 n1 c1] (grow (redrawn wc d1) os) fun e w'' => e = .returned (.bool true) ∧ ∃ p : Regrown, w'' = grow (redrawn wc p.d) p.os :=
          fun d1 os => Calls.regrown_of ((HR.out _ (hbc.trans ((below_regrown wc d1 os).mono hbc.size))).mono fun e w' ⟨he, hb⟩ => ⟨he.trans (rB HQ.out), hb⟩)
        have CE := hide cE
        clear cE hwc b0 b1 b2 b3 z0 z1 z2 z3 y0
        refine wp_region_quiet_below (by kernel_rfl) (by kernel_rfl) ?_
        repeat (go_big_quiet_step (first | with_reducible exact CE.out _ _))
        refine wpQuiet_nil ?_
        intro _ hw'
        obtain ⟨⟨dq, osq⟩, hw''⟩ := hw'
        subst hw''
        have hq_w2 := below_regrown wc dq osq
        generalize grow (redrawn wc dq) osq = w2 at *
        go_wp2_with fail
        go_roundw
        case rel => exact ⟨k + 1, by omega, by go_num, fun j hj => by
          obtain rfl : j = k := by have := HKZ.out; omega
          exact HF.out, (hb.trans ((hbc.trans (hq_w2.mono hbc.size)).mono hsr))⟩
        case measure => simp [intOf]; omega
      · obtain ⟨b', off', p, A2, n2, c2, hA', hbB', hp, f0, f1, f2, f3, _⟩ := h.opAt (j := k') (by omega)
        simp only [Option.some.injEq, Addr.mk.injEq, and_true] at hA'
        obtain ⟨rfl, rfl⟩ := hA'
        have HQ := hide hq
        have hm1 : (k : Int) - 1 = (k' : Int) := by omega
        have h3 : (0 : Int) ≤ (k' : Int) := by omega
        have h4 : (k' : Int) < (n : Int) := by omega
        have HAT := hide (show okAt ds k = decide (p.o = d.i) from by rw [hkk, okAt_succ (by rw [← hkk]; exact HD.out) hp, hq, Bool.true_and])
        have hkp : decide (0 < k) = true := by rw [decide_eq_true_eq]; omega
        have HKK := hide hkk
        clear hq h hp hkk f0
        by_cases hpo : p.o = d.i
        · have HPO := hide hpo
          have dne : (p.o != d.i) = false := by simp [hpo]
          clear hpo
          go_wp2_with fail
          obtain ⟨wc, hwc⟩ : ∃ wc, wc = wr.alloc (.cells #[.int .i64 d.k, .int .i64 d.i, .int .i64 d.o, .slice A1 n1 c1] 52) := ⟨_, rfl⟩
          have hbc : Below wr.heap.size wr wc := hwc ▸ (Below.refl _ _).alloc (Nat.le_refl _) _
          have b0 : wc.cell? ⟨wr.heap.size, 0, none⟩ = some (.int .i64 d.k) := by rw [hwc]; simp
          have b1 : wc.cell? ⟨wr.heap.size, 1, none⟩ = some (.int .i64 d.i) := by rw [hwc]; simp
          have b2 : wc.cell? ⟨wr.heap.size, 2, none⟩ = some (.int .i64 d.o) := by rw [hwc]; simp
          have b3 : wc.cell? ⟨wr.heap.size, 3, none⟩ = some (.slice A1 n1 c1) := by rw [hwc]; simp
          rw [← hwc]
          have v0 := cell_regrown b0
          have v1 := cell_regrown b1
          have v2 := cell_regrown b2
          have v3 := cell_regrown b3
          have v4 := cell_regrown (cellB hbc y0)
          have w2 := cell_regrown (cellB hbc ((hbw.cell (p := ⟨b, off + k' * 4 + 2, none⟩) hbk).trans f2))
          have cE : ∀ d1 os, Calls Try.prog 90 #[Opv d.k d.i d.o A1 n1 c1] (grow (redrawn wc d1) os) fun e w'' => e = .returned (.bool true) ∧ ∃ p : Regrown, w'' = grow (redrawn wc p.d) p.os :=
            fun d1 os => Calls.regrown_of ((HR.out _ (hbc.trans ((below_regrown wc d1 os).mono hbc.size))).mono fun e w' ⟨he, hb⟩ => ⟨he.trans (rB HQ.out), hb⟩)
          have CE := hide cE
          clear cE hwc b0 b1 b2 b3 z0 z1 z2 z3 y0
          refine wp_region_quiet_below (by kernel_rfl) (by kernel_rfl) ?_
          repeat (go_big_quiet_step (first | with_reducible exact CE.out _ _))
          refine wpQuiet_nil ?_
          intro _ hw'
          obtain ⟨⟨dq, osq⟩, hw''⟩ := hw'
          subst hw''
          have hq_w2 := below_regrown wc dq osq
          generalize grow (redrawn wc dq) osq = w2 at *
          go_wp2_with fail
          go_roundw
          case rel => exact ⟨k + 1, by omega, by go_num, fun j hj => by
            by_cases hjk : j < k
            · exact hall.out j hjk
            · obtain rfl : j = k := by omega
              rw [HAT.out, decide_eq_true HPO.out], (hb.trans ((hbc.trans (hq_w2.mono hbc.size)).mono hsr))⟩
          case measure => simp [intOf]; omega
        · have HPO := hide hpo
          have HF := hide (okMd_no hl.out hlt (HAT.out.trans (decide_eq_false hpo)))
          have dne : (p.o != d.i) = true := by simpa using hpo
          clear hpo
          go_wp2_with fail
          obtain ⟨wc, hwc⟩ : ∃ wc, wc = wr.alloc (.cells #[.int .i64 d.k, .int .i64 d.i, .int .i64 d.o, .slice A1 n1 c1] 52) := ⟨_, rfl⟩
          have hbc : Below wr.heap.size wr wc := hwc ▸ (Below.refl _ _).alloc (Nat.le_refl _) _
          have b0 : wc.cell? ⟨wr.heap.size, 0, none⟩ = some (.int .i64 d.k) := by rw [hwc]; simp
          have b1 : wc.cell? ⟨wr.heap.size, 1, none⟩ = some (.int .i64 d.i) := by rw [hwc]; simp
          have b2 : wc.cell? ⟨wr.heap.size, 2, none⟩ = some (.int .i64 d.o) := by rw [hwc]; simp
          have b3 : wc.cell? ⟨wr.heap.size, 3, none⟩ = some (.slice A1 n1 c1) := by rw [hwc]; simp
          rw [← hwc]
          have v0 := cell_regrown b0
          have v1 := cell_regrown b1
          have v2 := cell_regrown b2
          have v3 := cell_regrown b3
          have v4 := cell_regrown (cellB hbc y0)
          have w2 := cell_regrown (cellB hbc ((hbw.cell (p := ⟨b, off + k' * 4 + 2, none⟩) hbk).trans f2))
          have cE : ∀ d1 os, Calls Try.prog 90 #[Opv d.k d.i d.o A1 n1 c1] (grow (redrawn wc d1) os) fun e w'' => e = .returned (.bool true) ∧ ∃ p : Regrown, w'' = grow (redrawn wc p.d) p.os :=
            fun d1 os => Calls.regrown_of ((HR.out _ (hbc.trans ((below_regrown wc d1 os).mono hbc.size))).mono fun e w' ⟨he, hb⟩ => ⟨he.trans (rB HQ.out), hb⟩)
          have CE := hide cE
          clear cE hwc b0 b1 b2 b3 z0 z1 z2 z3 y0
          refine wp_region_quiet_below (by kernel_rfl) (by kernel_rfl) ?_
          repeat (go_big_quiet_step (first | with_reducible exact CE.out _ _))
          refine wpQuiet_nil ?_
          intro _ hw'
          obtain ⟨⟨dq, osq⟩, hw''⟩ := hw'
          subst hw''
          have hq_w2 := below_regrown wc dq osq
          generalize grow (redrawn wc dq) osq = w2 at *
          go_wp2_with fail
          go_ret
          exact ⟨rB HF.out.symm, (hbw.trans ((hbc.trans (hq_w2.mono hbc.size)).mono (by omega)))⟩
    · have hkn : n ≤ k := by omega
      have HT := hide (okMd_yes hl.out hn1 hn8 (fun j hj => hall.out j (by omega)))
      clear h
      go_wp2_with fail
      go_ret
      exact ⟨rB HT.out.symm, hbw⟩
end Go.Proofs.Ytehfglfbnjdcoaa
