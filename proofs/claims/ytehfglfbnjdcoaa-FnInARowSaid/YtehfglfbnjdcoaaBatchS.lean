/-
  The contracts of spec.BatchOk.
-/
import Derived.Test.YtehfglfbnjdcoaaJPlain
import Derived.Test.YtehfglfbnjdcoaaPairS
import Derived.Test.YtehfglfbnjdcoaaInOfS
import Derived.Test.YtehfglfbnjdcoaaVec
import Derived.Test.YtehfglfbnjdcoaaBatchI
import Derived.WalkKit
import Derived.BigQuiet
import Derived.Lib.QuietBelow
namespace Go.Proofs.Ytehfglfbnjdcoaa
open Go.RowKit Go.Sort
set_option maxRecDepth 100000

set_option maxHeartbeats 1000000 in
theorem spec_BatchOk {B n c B' n' c' : Nat} {A A' : Option Addr} {ds : List OpD} {ps : List PrD} (w : World) (h : RL 4 w B A n c (ds.flatMap opF)) (hB : B ≤ w.heap.size) (hn : n ≤ 1048576) (hsm : SmO ds)
    (h' : RL 2 w B' A' n' c' (ps.flatMap prF)) (hB' : B' ≤ w.heap.size) (hn' : n' ≤ 1048576) (hsm' : SmP ps) :
    Calls Try.prog 53 #[Modv A n c, .slice A' n' c'] w fun e w' => e = .returned (.bool (okBatch ds ps)) ∧ Below w.heap.size w w' := by
  obtain ⟨wb, hwb⟩ : ∃ wb, wb = (w.alloc (.cells #[.slice A n c] 36)) := ⟨_, rfl⟩
  have hb : Below w.heap.size w wb := hwb ▸ (Below.refl _ _).alloc (Nat.le_refl _) _
  have x0 : wb.cell? ⟨w.heap.size, 0, none⟩ = some (.slice A n c) := by rw [hwb]; simp
  have hlt0 : w.heap.size < wb.heap.size := by rw [hwb]; simp
  have hsb := hb.size
  have HW := hide hwb
  have hl := hide (h'.row prF_len (by omega))
  have HSM := hide hsm
  have HSM' := hide hsm'
  clear hwb hsm hsm'
  have HM := hide (spec_ModelOk wb (h.below (hb.mono hB)) (by omega) hn HSM.out)
  obtain ⟨qm, hqm⟩ : ∃ q, okMd ds = q := ⟨_, rfl⟩
  have HQM := hide hqm
  rw [hqm] at HM
  clear hqm
  cases qm
  case false =>
    have HZ := hide (okBatch_md (ps := ps) HQM.out)
    clear h h'
    go_enter Try.func53, Try.ntmps53
    go_wp2_with fail
    rw [← HW.out]
    refine HM.out.mono ?_
    rintro e w1 ⟨rfl, hb1⟩
    go_wp2_with fail
    go_ret
    exact ⟨rB HZ.out.symm, hb.trans (hb1.mono hsb)⟩
  by_cases hc : 1 ≤ n' ∧ n' ≤ 5
  case neg =>
    have HZ : Hid (okBatch ds ps = false) := hide (by
      by_cases h1 : n' < 1
      · exact okBatch_lo (by rw [hl.out]; exact h1)
      · exact okBatch_hi (by rw [hl.out]; omega))
    have hcn : ((n' : Int) < 1 ∨ (5 : Int) < (n' : Int)) := by omega
    have HC := hide hcn
    clear h h' hc hcn
    go_enter Try.func53, Try.ntmps53
    go_wp2_with fail
    rw [← HW.out]
    refine HM.out.mono ?_
    rintro e w1 ⟨rfl, hb1⟩
    go_wp2_with fail
    refine (spec_l1In_no _ 1 5 _ HC.out).mono ?_
    rintro e w' ⟨rfl, rfl⟩
    go_wp2_with fail
    go_ret
    exact ⟨rB HZ.out.symm, hb.trans (hb1.mono hsb)⟩
  obtain ⟨hn1, hn5⟩ := hc
  clear hn'
  obtain ⟨a, ha⟩ : ∃ a, mIn ds = a := ⟨_, rfl⟩
  obtain ⟨o, ho⟩ : ∃ o, mOutN ds = o := ⟨_, rfl⟩
  have HFP := hide (show ∀ xs ts : List Int, fitP ds xs ts = ((okV xs && decide ((xs.length : Int) = a)) && (okV ts && decide ((ts.length : Int) = o))) from fun xs ts => by rw [fitP, ha, ho, HQM.out]; rfl)
  have HIN := hide (fun (W : World) (hW : Below w.heap.size w W) => ha ▸ spec_InOf W (h.below (hW.mono hB)) (by have := hW.size; omega) hn HSM.out)
  have HON := hide (fun (W : World) (hW : Below w.heap.size w W) => ho ▸ spec_OutOf W (h.below (hW.mono hB)) (by have := hW.size; omega) hn HSM.out)
  clear h ha ho hn
  go_enter Try.func53, Try.ntmps53
  go_wp2_with fail
  rw [← HW.out]
  refine HM.out.mono ?_
  rintro e w1 ⟨rfl, hb1⟩
  go_wp2_with fail
  refine (spec_l1In_yes _ 1 5 _ (by omega) (by omega)).mono ?_
  rintro e w' ⟨rfl, rfl⟩
  replace x0 := cellB hb1 x0
  have hbm := hb.trans (hb1.mono hsb)
  have hsm1 := hb1.size
  clear hb1 HM
  go_wp2_with fail
  go_loopw [5] (fun i wr => ∃ k : Nat, k ≤ n' ∧ i = .int .i64 (k : Int) ∧ Hid (∀ (j : Nat) d, j < k → ps[j]? = some d → fitP ds d.x d.t = true) ∧ Below w1.heap.size w1 wr)
    (fun i _ => n' - (intOf i).toNat)
  case atStart => exact ⟨0, Nat.zero_le _, rfl, fun j d hj => absurd hj (by omega), Below.refl _ _⟩
  case round =>
    obtain ⟨k, hk, rfl, hall, hbr⟩ := hrel
    have hbw : Below w.heap.size w wr := hbm.trans (hbr.mono (by omega))
    have hsr := hbr.size
    have y0 := cell_regrown ((hbr.cell (p := ⟨w.heap.size, 0, none⟩) (by show w.heap.size < _; omega)).trans x0)
    clear x0
    by_cases hlt : k < n'
    · obtain ⟨b, off, d, A1, n1, c1, A2, n2, c2, rfl, hbB, hd, e0, hR, e1, hR2⟩ := h'.prAt hlt
      have hbk : b < w.heap.size := by omega
      have z0 := cell_regrown ((hbw.cell (p := ⟨b, off + k * 2, none⟩) hbk).trans e0)
      have z1 := cell_regrown ((hbw.cell (p := ⟨b, off + k * 2 + 1, none⟩) hbk).trans e1)
      have hi1 : (0 : Int) ≤ (k : Int) := by omega
      have hi2 : (k : Int) < (n' : Int) := by omega
      have hsd := HSM'.out k d hd
      have HF : Hid (fitP ds d.x d.t = ((okV d.x && decide ((n1 : Int) = a)) && (okV d.t && decide ((n2 : Int) = o)))) := hide (by rw [HFP.out, hR.1, hR2.1])
      rw [hR.1, hR2.1] at hsd
      obtain ⟨q1, hq1⟩ : ∃ q, okV d.x = q := ⟨_, rfl⟩
      obtain ⟨q2, hq2⟩ : ∃ q, okV d.t = q := ⟨_, rfl⟩
      rw [hq1, hq2] at HF
      have hr1 := hR.below (hbw.mono hB')
      have hr2 := hR2.below (hbw.mono hB')
      have cX : ∀ d os, Calls Try.prog 62 #[.slice A1 n1 c1] (grow (redrawn wr d) os) fun e w'' => e = .returned (.bool q1) ∧ ∃ p : Regrown, w'' = grow (redrawn wr p.d) p.os :=
        fun d os => have hq := below_regrown wr d os
          have hqs := hq.size
          Calls.regrown_of ((spec_VecOk _ (hr1.below (hq.mono (by omega))) hsd.1).mono fun e w' ⟨he, hw⟩ => ⟨he.trans (rB hq1), hw ▸ Below.refl _ _⟩)
      have cT : ∀ d os, Calls Try.prog 62 #[.slice A2 n2 c2] (grow (redrawn wr d) os) fun e w'' => e = .returned (.bool q2) ∧ ∃ p : Regrown, w'' = grow (redrawn wr p.d) p.os :=
        fun d os => have hq := below_regrown wr d os
          have hqs := hq.size
          Calls.regrown_of ((spec_VecOk _ (hr2.below (hq.mono (by omega))) hsd.2).mono fun e w' ⟨he, hw⟩ => ⟨he.trans (rB hq2), hw ▸ Below.refl _ _⟩)
      have cI : ∀ d os, Calls Try.prog 106 #[Modv A n c] (grow (redrawn wr d) os) fun e w'' => e = .returned (.int .i64 a) ∧ ∃ p : Regrown, w'' = grow (redrawn wr p.d) p.os :=
        fun d os => have hq := below_regrown wr d os
          have hqs := hq.size
          Calls.regrown_of ((HIN.out _ (hbw.trans (hq.mono (by omega)))).mono fun e w' ⟨he, hw⟩ => ⟨he, hw⟩)
      have cO : ∀ d os, Calls Try.prog 116 #[Modv A n c] (grow (redrawn wr d) os) fun e w'' => e = .returned (.int .i64 o) ∧ ∃ p : Regrown, w'' = grow (redrawn wr p.d) p.os :=
        fun d os => have hq := below_regrown wr d os
          have hqs := hq.size
          Calls.regrown_of ((HON.out _ (hbw.trans (hq.mono (by omega)))).mono fun e w' ⟨he, hw⟩ => ⟨he, hw⟩)
      have HD := hide hd
      have CX := hide cX
      have CT := hide cT
      have CI := hide cI
      have CO := hide cO
      clear cX cT cI cO e0 e1 hR hR2 hd h' hsd hr1 hr2 hq1 hq2 HIN HON
      obtain ⟨f1, hf1⟩ : ∃ f, decide ((n1 : Int) = a) = f := ⟨_, rfl⟩
      obtain ⟨f2, hf2⟩ : ∃ f, decide ((n2 : Int) = o) = f := ⟨_, rfl⟩
      have g1 : ((n1 : Int) != a) = !f1 := by rw [← hf1]; by_cases hh : (n1 : Int) = a <;> simp [hh]
      have g2 : ((n2 : Int) != o) = !f2 := by rw [← hf2]; by_cases hh : (n2 : Int) = o <;> simp [hh]
      rw [hf1, hf2] at HF
      clear hf1 hf2
      cases q1
      · simp only [Bool.false_and, Bool.and_false] at HF
        go_wp2_with fail
        refine wp_region_quiet_below (by kernel_rfl) (by kernel_rfl) ?_
        repeat (go_big_quiet_step (first | with_reducible exact CX.out _ _ | with_reducible exact CT.out _ _ | with_reducible exact CI.out _ _ | with_reducible exact CO.out _ _))
        refine wpQuiet_nil ?_
        intro _ hw'
        obtain ⟨⟨dq, osq⟩, hw''⟩ := hw'
        subst hw''
        have hq_w2 := below_regrown wr dq osq
        generalize grow (redrawn wr dq) osq = w2 at *
        go_wp2_with fail
        go_ret
        exact ⟨rB (okBatch_no HD.out (by rw [HF.out]; try simp)).symm, hbw.trans (hq_w2.mono hbw.size)⟩
      cases q2
      · simp only [Bool.false_and, Bool.and_false] at HF
        go_wp2_with fail
        refine wp_region_quiet_below (by kernel_rfl) (by kernel_rfl) ?_
        repeat (go_big_quiet_step (first | with_reducible exact CX.out _ _ | with_reducible exact CT.out _ _ | with_reducible exact CI.out _ _ | with_reducible exact CO.out _ _))
        refine wpQuiet_nil ?_
        intro _ hw'
        obtain ⟨⟨dq, osq⟩, hw''⟩ := hw'
        subst hw''
        have hq_w2 := below_regrown wr dq osq
        generalize grow (redrawn wr dq) osq = w2 at *
        go_wp2_with fail
        go_ret
        exact ⟨rB (okBatch_no HD.out (by rw [HF.out]; try simp)).symm, hbw.trans (hq_w2.mono hbw.size)⟩
      cases f1
      · simp only [Bool.not_false] at g1
        go_wp2_with fail
        refine wp_region_quiet_below (by kernel_rfl) (by kernel_rfl) ?_
        repeat (go_big_quiet_step (first | with_reducible exact CX.out _ _ | with_reducible exact CT.out _ _ | with_reducible exact CI.out _ _ | with_reducible exact CO.out _ _))
        refine wpQuiet_nil ?_
        intro _ hw'
        obtain ⟨⟨dq, osq⟩, hw''⟩ := hw'
        subst hw''
        have hq_w2 := below_regrown wr dq osq
        generalize grow (redrawn wr dq) osq = w2 at *
        go_wp2_with fail
        go_ret
        exact ⟨rB (okBatch_no HD.out (by rw [HF.out]; try simp)).symm, hbw.trans (hq_w2.mono hbw.size)⟩
      cases f2
      · simp only [Bool.not_true, Bool.not_false] at g1 g2
        go_wp2_with fail
        refine wp_region_quiet_below (by kernel_rfl) (by kernel_rfl) ?_
        repeat (go_big_quiet_step (first | with_reducible exact CX.out _ _ | with_reducible exact CT.out _ _ | with_reducible exact CI.out _ _ | with_reducible exact CO.out _ _))
        refine wpQuiet_nil ?_
        intro _ hw'
        obtain ⟨⟨dq, osq⟩, hw''⟩ := hw'
        subst hw''
        have hq_w2 := below_regrown wr dq osq
        generalize grow (redrawn wr dq) osq = w2 at *
        go_wp2_with fail
        go_ret
        exact ⟨rB (okBatch_no HD.out (by rw [HF.out]; try simp)).symm, hbw.trans (hq_w2.mono hbw.size)⟩
      simp only [Bool.not_true] at g1 g2
      go_wp2_with fail
      refine wp_region_quiet_below (by kernel_rfl) (by kernel_rfl) ?_
      repeat (go_big_quiet_step (first | with_reducible exact CX.out _ _ | with_reducible exact CT.out _ _ | with_reducible exact CI.out _ _ | with_reducible exact CO.out _ _))
      refine wpQuiet_nil ?_
      intro _ hw'
      obtain ⟨⟨dq, osq⟩, hw''⟩ := hw'
      subst hw''
      have hq_w2 := below_regrown wr dq osq
      generalize grow (redrawn wr dq) osq = w2 at *
      go_wp2_with fail
      go_roundw
      case rel => exact ⟨k + 1, by omega, by go_num, fun j d' hj hd' => by
        by_cases hjk : j < k
        · exact hall.out j d' hjk hd'
        · obtain rfl : j = k := by omega
          rw [HD.out] at hd'
          obtain rfl : d = d' := by simpa using hd'
          rw [HF.out]; rfl, hbr.trans (hq_w2.mono hsr)⟩
      case measure => simp [intOf]; omega
    · have HT := hide (okBatch_all hl.out HQM.out hn1 hn5 (fun j d hj hd => hall.out j d (by omega) hd))
      clear h'
      go_wp2_with fail
      go_ret
      exact ⟨rB HT.out.symm, hbw⟩
end Go.Proofs.Ytehfglfbnjdcoaa
