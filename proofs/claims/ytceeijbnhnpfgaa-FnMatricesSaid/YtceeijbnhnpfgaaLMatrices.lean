/-
  PROVED HERE: the law 'laws.FnMatrices' returns true and leaves its arguments as they were, for every input, without a condition.
-/
import Derived.Test.YtceeijbnhnpfgaaRows
import Derived.Test.YtceeijbnhnpfgaaFrame
import Derived.Test.YtceeijbnhnpfgaaOpenB
import Derived.Test.YtceeijbnhnpfgaaPlainX
import Derived.Test.YtceeijbnhnpfgaaDrawM
import Derived.Test.YtceeijbnhnpfgaaTran
import Derived.Test.YtceeijbnhnpfgaaBack
import Derived.Test.YtceeijbnhnpfgaaMat
import Derived.Test.YtceeijbnhnpfgaaOut
import Derived.Test.YtceeijbnhnpfgaaOp
import Derived.Test.YtceeijbnhnpfgaaSame
import Derived.BigQuiet
import Derived.Lib.QuietBelow
import Derived.WalkKit
import Derived.Deep.RegionHeld3
import Derived.ProofKit
import Derived.OpenShut
namespace Go.Proofs.Ytceeijbnhnpfgaa.fnMatrices
open Go.ChangeShapes Go.WideShapes Go.ChangeAt Go.RowKit
open Go.ChangeMaps (open_string)
set_option linter.unusedVariables false
theorem cells_u8 : Try.prog.cellsOf 5 = 1 := by kernel_rfl
open Go.Sort
set_option maxHeartbeats 8000000 in
set_option maxRecDepth 100000 in
theorem walk (w : World) {A0 : Option Addr} {n0 c0 : Nat} (hC0 : (n0 : Int) ≤ 1048576 → BA w w.heap.size A0 n0 c0) : Calls Try.prog 4 #[.slice A0 n0 c0] w fun e w' => e = .returned (.bool true) ∧ Below w.heap.size w w' := by
  by_cases hL : (1048576 : Int) < (n0 : Int)
  · go_enter Try.func4, Try.ntmps4
    go_wp2_with fail
    refine (laws_big_yes _ _ _ w hL).mono ?_
    rintro e w' ⟨rfl, rfl⟩
    go_wp2_with fail
    go_ret
    exact ⟨rfl, Below.refl _ _⟩
  have hb0 := hide (hC0 (by omega))
  have HL := hide (show (n0 : Int) ≤ 1048576 by omega)
  clear hC0 hL
  go_enter Try.func4, Try.ntmps4
  go_wp2_with fail
  refine (laws_big_no _ _ _ w HL.out).mono ?_
  rintro e w' ⟨rfl, rfl⟩
  go_wp2_with fail
  refine (spec_DrawMatBack w hb0.out (Nat.le_refl _)).mono ?_
  rintro e w1 ⟨r, k, A1, n1, c1, A2, n2, c2, xs, ds, rfl, hxl, hdl, hR, hD, hb1⟩
  have hn1 : n1 ≤ 1048576 := by rw [← hR.1]; omega
  have hn2 : n2 ≤ 1048576 := by rw [← hD.1]; omega
  have hs1 := hb1.size
  obtain ⟨w2, hw_m⟩ : ∃ W, W = w1.alloc (.cells #[.int .i64 r, .int .i64 k, .slice A1 n1 c1] 38) := ⟨_, rfl⟩
  have hb_m : Below w1.heap.size w1 w2 := hw_m ▸ (Below.refl _ _).alloc (Nat.le_refl _) _
  have hs_m := hb_m.size
  have HW_m := hide hw_m
  have m0 : w2.cell? ⟨w1.heap.size, 0, none⟩ = some (.int .i64 r) := by rw [hw_m]; simp
  have m1 : w2.cell? ⟨w1.heap.size, 1, none⟩ = some (.int .i64 k) := by rw [hw_m]; simp
  have m2 : w2.cell? ⟨w1.heap.size, 2, none⟩ = some (.slice A1 n1 c1) := by rw [hw_m]; simp
  clear hw_m
  have HB2 := hide (hb1.trans (hb_m.mono hs1))
  have HR := hide (fun (W : World) (hW : Below w1.heap.size w1 W) => hR.below hW)
  have HD := hide (fun (W : World) (hW : Below w1.heap.size w1 W) => hD.below hW)
  have HBA := hide (fun (W : World) (hW : Below w.heap.size w W) => hb0.out.below hW)
  have hb12 := hb_m
  have hMB := impl_MatBack r k w2 (HR.out w2 hb12) (HD.out w2 hb12) (by omega) (by omega) hn1 hn2
  obtain ⟨zs, hzs⟩ : ∃ zs, mBack r k xs ds = zs := ⟨_, rfl⟩
  obtain ⟨zb, hzb⟩ : ∃ zb, mBackS r k xs ds = zb := ⟨_, rfl⟩
  have hzl : zs.length ≤ 1048576 := by have := mBack_len r k xs ds; rw [hzs] at this; omega
  have hbv := back_is_vec r k xs ds
  rw [hzs, hzb] at hMB hbv
  have HMB := hide hMB
  have HBV := hide hbv
  have HB12 := hide hb12
  clear hMB hbv hzs hzb hR hD hb1 hb_m hb12 hb0
  go_wp2_with fail
  rw [← HW_m.out]
  refine HMB.out.mono ?_
  rintro e w3 ⟨v, rfl, hq⟩
  obtain ⟨A3, n3, c3, rfl, hO3, hb3⟩ := newI hq
  have hs3 := hb3.size
  have HB13 := hide (HB12.out.trans (hb3.mono HB12.out.size))
  have HB3 := hide (HB2.out.trans (hb3.mono HB2.out.size))
  replace m0 := cellB hb3 m0
  replace m1 := cellB hb3 m1
  replace m2 := cellB hb3 m2
  clear hb3 hq HMB
  go_wp2_with fail
  refine (impl_Transpose r k w3 (HR.out w3 HB13.out) (by have := HB13.out.size; omega) hn1).mono ?_
  rintro e w4 ⟨A4, n4, c4, rfl, hO4, hb4⟩
  have hs4 := hb4.size
  have HB14 := hide (HB13.out.trans (hb4.mono HB13.out.size))
  have HB4 := hide (HB3.out.trans (hb4.mono HB3.out.size))
  replace hO3 := hO3.below hb4
  replace m0 := cellB hb4 m0
  replace m1 := cellB hb4 m1
  replace m2 := cellB hb4 m2
  have hn4 : n4 ≤ 1048576 := by have := hO4.ri.1; have := mTr_len r k xs; omega
  have hMV := impl_MatVec (mTrR r k xs) (mTrC r k xs) w4 hO4.ri (HD.out w4 HB14.out) (by omega) (by have := HB14.out.size; omega) hn4 hn2
  rw [HBV.out.1, HBV.out.2] at hMV
  have HMV := hide hMV
  clear hb4 hMV hO4
  go_wp2_with fail
  refine HMV.out.mono ?_
  rintro e w5 ⟨v, rfl, hq⟩
  obtain ⟨A5, n5, c5, rfl, hO5, hb5⟩ := newI hq
  have hs5 := hb5.size
  have HB15 := hide (HB14.out.trans (hb5.mono HB14.out.size))
  have HB5 := hide (HB4.out.trans (hb5.mono HB4.out.size))
  replace hO3 := hO3.below hb5
  replace m0 := cellB hb5 m0
  replace m1 := cellB hb5 m1
  replace m2 := cellB hb5 m2
  have hSI : Calls Try.prog 13 #[.slice A3 n3 c3, .slice A5 n5 c5] w5 (Quiet (.bool true) w5) := by
    have := laws_sameInts w5 hO3.ri hO5.ri (by rw [← hO3.ri.1]; exact hzl) (by rw [← hO5.ri.1]; exact hzl)
    simpa using this
  have HSI := hide hSI
  clear hb5 hq hSI hO3 hO5 HMV
  go_wp2_with fail
  refine HSI.out.mono ?_
  rintro e w6 hq6
  obtain ⟨rfl, hb6⟩ := hq6.below
  have hs6 := hb6.size
  have HB16 := hide (HB15.out.trans (hb6.mono HB15.out.size))
  have HB6 := hide (HB5.out.trans (hb6.mono HB5.out.size))
  replace m0 := cellB hb6 m0
  replace m1 := cellB hb6 m1
  replace m2 := cellB hb6 m2
  clear hb6 hq6 HSI
  cases zb
  all_goals
    go_wp2_with fail
    obtain ⟨ok, hok⟩ : ∃ ok, okM r k xs = ok := ⟨_, rfl⟩
    have HMO := hide (hok ▸ spec_MatOk r k w6.drew (HR.out w6 HB16.out).drewM (by have := HB16.out.size; show _ ≤ w6.heap.size; omega) hn1)
    have HTW := hide (fun (h : ok = true) => turn_twice (hok.trans h))
    have HOK := hide hok
    clear hok
    cases ok
    case' false =>
      have k0 := cell_regrown m0
      have k1 := cell_regrown m1
      have k2 := cell_regrown m2
      have hRR := HR.out w6 HB16.out
      have hz6 := HB16.out.size
      have CE := hide (show ∀ d os, Calls Try.prog 21 #[Matv r k A1 n1 c1] (grow (redrawn w6 d) os) fun e w'' => e = .returned (.bool false) ∧ ∃ p : Regrown, w'' = grow (redrawn w6 p.d) p.os from fun d os => have hq := below_regrown w6 d os
        have hqs := hq.size
        Calls.regrown_of (HOK.out ▸ spec_MatOk r k _ (hRR.below (hq.mono (by omega))) (by omega) hn1))
      refine wp_region_quiet_below (by kernel_rfl) (by kernel_rfl) ?_
      repeat (go_big_quiet_step (first | with_reducible exact CE.out _ _))
      refine wpQuiet_nil ?_
      intro _ hw'
      obtain ⟨⟨dq, osq⟩, hw''⟩ := hw'
      subst hw''
      have hq_w7 := below_regrown w6 dq osq
      generalize grow (redrawn w6 dq) osq = w7 at *
      have HB7 := hide (HB6.out.trans (hq_w7.mono HB6.out.size))
      have hs7 := hq_w7.size
      clear k0 k1 k2 hRR hq_w7
    case' true =>
      have gate0 : True := trivial
      have gate1 : True := trivial
      have gate2 : True := trivial
      have gate3 : True := trivial
      go_region_held3 (fun W => W.cell? ⟨w1.heap.size, 0, none⟩ = some (.int .i64 r) ∧ W.cell? ⟨w1.heap.size, 1, none⟩ = some (.int .i64 k) ∧ W.cell? ⟨w1.heap.size, 2, none⟩ = some (.slice A1 n1 c1)) (first | exact ⟨m0, m1, m2⟩) (first
        | (clear gate0; go_at_call 21; refine HMO.out.mono ?_; rintro e w7 ⟨rfl, hb⟩; have hb : Below w6.heap.size w6 w7 := undrew hb; have hs7 := hb.size; have HB17 := hide (HB16.out.trans (hb.mono HB16.out.size)); have HB7 := hide (HB6.out.trans (hb.mono HB6.out.size)); replace m0 := cellB hb m0; replace m1 := cellB hb m1; replace m2 := cellB hb m2; clear hb)
        | (clear gate1; go_at_call 20; refine (impl_Transpose r k w7 (HR.out w7 HB17.out) (by have := HB17.out.size; omega) hn1).mono ?_; rintro e w8 ⟨B1, i1, j1, rfl, hT1, hb⟩; have hs8 := hb.size; have HB18 := hide (HB17.out.trans (hb.mono HB17.out.size)); have HB8 := hide (HB7.out.trans (hb.mono HB7.out.size)); replace m0 := cellB hb m0; replace m1 := cellB hb m1; replace m2 := cellB hb m2; clear hb)
        | (clear gate2; go_at_call 20; refine (impl_Transpose _ _ w8 hT1.ri (Nat.le_refl _) (by have := hT1.ri.1; have := mTr_len r k xs; omega)).mono ?_; rintro e w9 ⟨B2, i2, j2, rfl, hT2, hb⟩; have hs9 := hb.size; have HB19 := hide (HB18.out.trans (hb.mono HB18.out.size)); have HB9 := hide (HB8.out.trans (hb.mono HB8.out.size)); replace m0 := cellB hb m0; replace m1 := cellB hb m1; replace m2 := cellB hb m2; clear hb hT1)
        | (clear gate3; go_at_call 22; obtain ⟨t1, t2, t3⟩ := HTW.out (by simp); have hi2 : i2 ≤ 1048576 := (by have h9 := hT2.ri.1; rw [t3] at h9; omega); have hz9 := HB19.out.size; refine (spec_SameMat _ _ _ _ w9 hT2.ri (HR.out w9 HB19.out) (Nat.le_refl _) hz9 hi2 hn1).mono ?_; rintro e w7 ⟨he, hb⟩; simp [t1, t2, t3] at he; subst he; have HB7 := hide (HB9.out.trans (hb.mono HB9.out.size)); have hs7 := hb.size; replace m0 := cellB hb m0; replace m1 := cellB hb m1; replace m2 := cellB hb m2; clear hb hT2 t1 t2 t3))
    all_goals
      clear m0 m1 m2
      go_wp2_with fail
      refine (spec_DrawOuter w7 (HBA.out w7 HB7.out) HB7.out.size).mono ?_
      rintro e wa ⟨v, u, aa, bs, rfl, hal, hbl, _, _, hv, hu, hba⟩
      obtain ⟨A6, n6, c6, rfl, hR6⟩ := hv
      obtain ⟨A7, n7, c7, rfl, hR7⟩ := hu
      have hsa := hba.size
      have HBa := hide (HB7.out.trans (hba.mono HB7.out.size))
      have hn6 : n6 ≤ 1048576 := by rw [← hR6.1]; omega
      have hn7 : n7 ≤ 1048576 := by rw [← hR7.1]; omega
      obtain ⟨hot1, hot2, hot3, hot4⟩ := outer_turn aa bs
      obtain ⟨pr, hpr⟩ : ∃ p, mOutR aa bs = p := ⟨_, rfl⟩
      obtain ⟨pk, hpk⟩ : ∃ p, mOutC aa bs = p := ⟨_, rfl⟩
      obtain ⟨ps, hps⟩ : ∃ p, mOut aa bs = p := ⟨_, rfl⟩
      obtain ⟨qr, hqr⟩ : ∃ p, mOutR bs aa = p := ⟨_, rfl⟩
      obtain ⟨qk, hqk⟩ : ∃ p, mOutC bs aa = p := ⟨_, rfl⟩
      obtain ⟨qs, hqs⟩ : ∃ p, mOut bs aa = p := ⟨_, rfl⟩
      obtain ⟨ob, hob⟩ : ∃ p, mOutS bs aa = p := ⟨_, rfl⟩
      have hOA := impl_Outer wa hR6 hR7 (Nat.le_refl _) (Nat.le_refl _) hn6 hn7
      have hOB := fun (W : World) (hW : Below wa.heap.size wa W) => impl_Outer W (hR7.below hW) (hR6.below hW) hW.size hW.size hn7 hn6
      have hpl : ps.length ≤ 36 := by rw [← hps]; exact mOut_len ..
      have hql : qs.length ≤ 36 := by rw [← hqs]; exact mOut_len ..
      rw [hot1] at hOA
      rw [hpr, hpk, hps, hob] at hOA
      rw [hpr, hpk, hps] at hot2 hot3 hot4
      rw [hqr] at hot2
      rw [hqk] at hot3
      rw [hqs] at hot4
      simp only [hqr, hqk, hqs, hob] at hOB
      have HOA := hide hOA
      have HOB := hide hOB
      have HT2 := hide hot2
      have HT3 := hide hot3
      have HT4 := hide hot4
      clear hOA hOB hot1 hot2 hot3 hot4 hpr hpk hps hqr hqk hqs hob hR6 hR7 hba
      go_wp2_with fail
      refine HOA.out.mono ?_
      rintro e wb ⟨A8, n8, c8, rfl, hO8, hbb⟩
      have hsb := hbb.size
      have HBb := hide (HBa.out.trans (hbb.mono HBa.out.size))
      obtain ⟨wc, hw_p⟩ : ∃ W, W = wb.alloc (.cells #[.int .i64 pr, .int .i64 pk, .slice A8 n8 c8] 38) := ⟨_, rfl⟩
      have hb_p : Below wb.heap.size wb wc := hw_p ▸ (Below.refl _ _).alloc (Nat.le_refl _) _
      have hs_p := hb_p.size
      have HW_p := hide hw_p
      have p0 : wc.cell? ⟨wb.heap.size, 0, none⟩ = some (.int .i64 pr) := by rw [hw_p]; simp
      have p1 : wc.cell? ⟨wb.heap.size, 1, none⟩ = some (.int .i64 pk) := by rw [hw_p]; simp
      have p2 : wc.cell? ⟨wb.heap.size, 2, none⟩ = some (.slice A8 n8 c8) := by rw [hw_p]; simp
      clear hw_p
      have HBc := hide (HBb.out.trans (hb_p.mono HBb.out.size))
      replace hO8 := hO8.below hb_p
      have HBac := hide (hbb.trans (hb_p.mono hsb))
      clear hb_p hbb HOA
      go_wp2_with fail
      rw [← HW_p.out]
      refine (HOB.out wc HBac.out).mono ?_
      rintro e wd ⟨A9, n9, c9, rfl, hO9, hbd⟩
      have hsd := hbd.size
      have HBd := hide (HBc.out.trans (hbd.mono HBc.out.size))
      replace hO8 := hO8.below hbd
      replace p0 := cellB hbd p0
      replace p1 := cellB hbd p1
      replace p2 := cellB hbd p2
      obtain ⟨we, hw_q⟩ : ∃ W, W = wd.alloc (.cells #[.int .i64 qr, .int .i64 qk, .slice A9 n9 c9] 38) := ⟨_, rfl⟩
      have hb_q : Below wd.heap.size wd we := hw_q ▸ (Below.refl _ _).alloc (Nat.le_refl _) _
      have hs_q := hb_q.size
      have HW_q := hide hw_q
      have q0 : we.cell? ⟨wd.heap.size, 0, none⟩ = some (.int .i64 qr) := by rw [hw_q]; simp
      have q1 : we.cell? ⟨wd.heap.size, 1, none⟩ = some (.int .i64 qk) := by rw [hw_q]; simp
      have q2 : we.cell? ⟨wd.heap.size, 2, none⟩ = some (.slice A9 n9 c9) := by rw [hw_q]; simp
      have p0e := cellB hb_q p0
      have p1e := cellB hb_q p1
      have p2e := cellB hb_q p2
      clear hw_q
      have HBe := hide (HBd.out.trans (hb_q.mono HBd.out.size))
      replace hO8 := hO8.below hb_q
      replace hO9 := hO9.below hb_q
      have p0a := fun o => cellB ((Below.refl _ _).alloc (Nat.le_refl _) o) p0
      have p1a := fun o => cellB ((Below.refl _ _).alloc (Nat.le_refl _) o) p1
      have p2a := fun o => cellB ((Below.refl _ _).alloc (Nat.le_refl _) o) p2
      clear hb_q hbd HOB
      cases ob
      all_goals
        go_wp2_with fail
        rw [← HW_q.out]
        replace p0 := p0e
        replace p1 := p1e
        replace p2 := p2e
        clear p0a p1a p2a
        have gate0 : True := trivial
        have gate1 : True := trivial
        go_region_held3 (fun W => W.cell? ⟨wb.heap.size, 0, none⟩ = some (.int .i64 pr) ∧ W.cell? ⟨wb.heap.size, 1, none⟩ = some (.int .i64 pk) ∧ W.cell? ⟨wb.heap.size, 2, none⟩ = some (.slice A8 n8 c8) ∧ W.cell? ⟨wd.heap.size, 0, none⟩ = some (.int .i64 qr) ∧ W.cell? ⟨wd.heap.size, 1, none⟩ = some (.int .i64 qk) ∧ W.cell? ⟨wd.heap.size, 2, none⟩ = some (.slice A9 n9 c9)) (first | exact ⟨p0, p1, p2, q0, q1, q2⟩) (first
          | (clear gate0; go_at_call 20; refine (impl_Transpose pr pk we.drew hO8.ri.drewM (by show _ ≤ we.heap.size; omega) (by have := hO8.ri.1; omega)).mono ?_; rintro e wf ⟨B1, i1, j1, rfl, hT1, hb⟩; have hT1 : OwI wf we.heap.size wf.heap.size (.slice B1 i1 j1) (mTr pr pk ps) := hT1; have hb : Below we.heap.size we wf := undrew hb; have hsf := hb.size; have HBf := hide (HBe.out.trans (hb.mono HBe.out.size)); replace hO9 := hO9.below hb; replace p0 := cellB hb p0; replace p1 := cellB hb p1; replace p2 := cellB hb p2; replace q0 := cellB hb q0; replace q1 := cellB hb q1; replace q2 := cellB hb q2; clear hb)
          | (clear gate1; go_at_call 22; have hj1 : i1 ≤ 1048576 := (by have h9 := hT1.ri.1; rw [HT4.out] at h9; omega); have hj9 : n9 ≤ 1048576 := (by have h9 := hO9.ri.1; omega); refine (spec_SameMat _ _ _ _ wf hT1.ri hO9.ri (Nat.le_refl _) (by omega) hj1 hj9).mono ?_; rintro e wg ⟨he, hb⟩; simp [HT2.out, HT3.out, HT4.out] at he; subst he; have HBg := hide (HBf.out.trans (hb.mono HBf.out.size)); replace p0 := cellB hb p0; replace p1 := cellB hb p1; replace p2 := cellB hb p2; replace q0 := cellB hb q0; replace q1 := cellB hb q1; replace q2 := cellB hb q2; clear hb))
        go_wp2_with fail
        go_ret
        exact ⟨rfl, HBg.out⟩
set_option maxRecDepth 100000 in
theorem lifted (os : Os) (started : os.Started) (H : Type) (enc : TypeId × Value → H) :
    ReturnsInHanded {} Try.checked os 4 .any (Rows.fnMatricesSpec.pre6 enc Try.prog Try.f4 Rows.fnMatricesRow.domain false) (Rows.fnMatricesSpec.post enc Try.prog Try.f4 false true false false) := by
  refine law_lifted (C := Try.checked) (f := 4) (fn := Try.f4) (tb := 4) os (by kernel_rfl) started (by kernel_rfl) Try.func4 (by kernel_rfl) (by kernel_rfl) rfl Try.underlying4 rfl (fun H ds h => ?_) H enc
    (ChangeSpec.witness6 (enc := enc) (C := Try.checked) false ⟨#[], #[.slice none 0 0], []⟩ 8 (by kernel_rfl) (by kernel_rfl) (by kernel_rfl) (by kernel_rfl)) ?_
  · rw [show Try.f4.params.size = 1 from by kernel_rfl] at h
    match ds, h with
    | [d0], _ => rfl
  intro W base args ds ps hval hA hlt
  have hval : ∀ (j : Nat) t v, Try.f4.params[j]? = some t → args[j]? = some v → Value.okWide Try.prog W .any base t v := hval
  have hA : DataW.TrodAll enc Try.prog W 0 (fun _ => true) true Try.f4.params.toList args.toList ds ps := hA
  rw [Try.params4] at hA hval
  obtain ⟨v0, vs0, d0, ds0, p0, q0, hargs, rfl, rfl, h0, r0⟩ := trodAll_cons hA
  obtain ⟨rfl, rfl, rfl⟩ := trodAll_nil r0
  obtain rfl : args = #[v0] := by cases args; simp_all
  obtain ⟨A0, n0, c0, rfl, hC0⟩ := openB Try.underlying22 Try.underlying5 cells_u8 (hval 0 22 v0 rfl rfl) h0 (fun x hx => hlt x (by simp [hx]))
  exact walk W hC0
theorem proved : Rows.FnMatricesSaid :=
  OpenClaim.holds_of_wide 4 Try.f4 rfl rfl rfl rfl rfl rfl rfl ⟨rfl, rfl, rfl, rfl, rfl⟩ rfl rfl rfl rfl rfl (by kernel_rfl) Try.func4 (by kernel_rfl)
    (of_decide_eq_true (by kernel_rfl)) (by unfold Func.isWrapper; first | (rw [if_pos (by decide +kernel)]; kernel_rfl) | (rw [if_neg (by decide +kernel)]; exact ⟨rfl, rfl⟩))
    (fun os started H enc _ => lifted os started H enc)
#print axioms proved
end Go.Proofs.Ytceeijbnhnpfgaa.fnMatrices
