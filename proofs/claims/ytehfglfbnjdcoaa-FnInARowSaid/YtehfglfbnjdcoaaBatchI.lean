/-
  The contracts of impl.BatchOk.
-/
import Derived.Test.YtehfglfbnjdcoaaJPlain
import Derived.Test.YtehfglfbnjdcoaaPairS
import Derived.Test.YtehfglfbnjdcoaaInOfI
import Derived.Test.YtehfglfbnjdcoaaVec
import Derived.WalkKit
import Derived.BigQuiet
import Derived.Lib.QuietBelow
namespace Go.Proofs.Ytehfglfbnjdcoaa
open Go.RowKit Go.Sort
set_option maxRecDepth 100000

theorem okBatch_all {ds : List OpD} {ps : List PrD} {n : Nat} (hl : ps.length = n) (ho : okMd ds = true) (h1 : 1 ≤ n) (h5 : n ≤ 5) (h : ∀ (j : Nat) d, j < n → ps[j]? = some d → fitP ds d.x d.t = true) : okBatch ds ps = true := by
  simp only [okBatch, ho, hl, decide_eq_true h1, decide_eq_true h5, Bool.true_and, List.all_eq_true]
  intro p hp
  obtain ⟨j, hj⟩ := List.getElem?_of_mem hp
  exact h j p (by have := (List.getElem?_eq_some_iff.1 hj).1; omega) hj
theorem okBatch_no {ds : List OpD} {ps : List PrD} {j : Nat} {d : PrD} (h : ps[j]? = some d) (hf : fitP ds d.x d.t = false) : okBatch ds ps = false := by
  have : (ps.all fun p => fitP ds p.x p.t) = false := by
    rw [List.all_eq_false]
    exact ⟨d, List.mem_of_getElem? h, by rw [hf]; simp⟩
  rw [okBatch, this, Bool.and_false]
theorem okBatch_md {ds : List OpD} {ps : List PrD} (h : okMd ds = false) : okBatch ds ps = false := by rw [okBatch, h]; rfl
theorem okBatch_lo {ds : List OpD} {ps : List PrD} (h : ps.length < 1) : okBatch ds ps = false := by
  rw [okBatch, decide_eq_false (show ¬ 1 ≤ ps.length by omega)]; simp
theorem okBatch_hi {ds : List OpD} {ps : List PrD} (h : 5 < ps.length) : okBatch ds ps = false := by
  rw [okBatch, decide_eq_false (show ¬ ps.length ≤ 5 by omega)]; simp
set_option maxHeartbeats 1000000 in
theorem impl_fits {B n c B1 n1 c1 B2 n2 c2 : Nat} {A A1 A2 : Option Addr} {ds : List OpD} {xs ts : List Int} (w : World) (h : RL 4 w B A n c (ds.flatMap opF)) (hB : B ≤ w.heap.size) (hn : n ≤ 1048576) (hsm : SmO ds)
    (h1 : RI w B1 A1 n1 c1 xs) (hB1 : B1 ≤ w.heap.size) (hn1 : n1 ≤ 1048576) (h2 : RI w B2 A2 n2 c2 ts) (hB2 : B2 ≤ w.heap.size) (hn2 : n2 ≤ 1048576) :
    Calls Try.prog 79 #[Modv A n c, Prv A1 n1 c1 A2 n2 c2] w fun e w' => e = .returned (.bool (fitP ds xs ts)) ∧ Below w.heap.size w w' := by
  obtain ⟨wb, hwb⟩ : ∃ wb, wb = ((w.alloc (.cells #[.slice A n c] 36)).alloc (.cells #[.slice A1 n1 c1, .slice A2 n2 c2] 38)) := ⟨_, rfl⟩
  have hb : Below w.heap.size w wb := hwb ▸ (((Below.refl _ _).alloc (Nat.le_refl _) _).alloc (by simp) _)
  have x0 : wb.cell? ⟨w.heap.size, 0, none⟩ = some (.slice A n c) := by rw [hwb]; simp
  have y0 : wb.cell? ⟨w.heap.size + 1, 0, none⟩ = some (.slice A1 n1 c1) := by rw [hwb]; simp
  have y1 : wb.cell? ⟨w.heap.size + 1, 1, none⟩ = some (.slice A2 n2 c2) := by rw [hwb]; simp
  have k0 := cell_regrown x0
  have k1 := cell_regrown y0
  have k2 := cell_regrown y1
  have hsb := hb.size
  have HW := hide hwb
  clear hwb x0 y0 y1
  replace h := h.below (hb.mono hB)
  replace h1 := h1.below (hb.mono hB1)
  replace h2 := h2.below (hb.mono hB2)
  obtain ⟨a, ha⟩ : ∃ a, mIn ds = a := ⟨_, rfl⟩
  obtain ⟨b, hb'⟩ : ∃ b, mOutN ds = b := ⟨_, rfl⟩
  obtain ⟨qx, hqx⟩ : ∃ q, (okV xs && decide ((xs.length : Int) = a)) = q := ⟨_, rfl⟩
  obtain ⟨qt, hqt⟩ : ∃ q, (okV ts && decide ((ts.length : Int) = b)) = q := ⟨_, rfl⟩
  have HR := hide (show fitP ds xs ts = (okMd ds && qx && qt) from by rw [fitP, ha, hb', hqx, hqt])
  have cM : ∀ d os, Calls Try.prog 70 #[Modv A n c] (grow (redrawn wb d) os) fun e w'' => e = .returned (.bool (okMd ds)) ∧ ∃ p : Regrown, w'' = grow (redrawn wb p.d) p.os :=
    fun d os => have hq := below_regrown wb d os
      have hqs := hq.size
      Calls.regrown_of (impl_ModelOk _ (h.below (hq.mono (by omega))) (by omega) hn hsm)
  have cI : ∀ d os, Calls Try.prog 67 #[Modv A n c] (grow (redrawn wb d) os) fun e w'' => e = .returned (.int .i64 a) ∧ ∃ p : Regrown, w'' = grow (redrawn wb p.d) p.os :=
    fun d os => have hq := below_regrown wb d os
      have hqs := hq.size
      Calls.regrown_of (ha ▸ impl_InOf _ (h.below (hq.mono (by omega))) (by omega) hn hsm)
  have cO : ∀ d os, Calls Try.prog 69 #[Modv A n c] (grow (redrawn wb d) os) fun e w'' => e = .returned (.int .i64 b) ∧ ∃ p : Regrown, w'' = grow (redrawn wb p.d) p.os :=
    fun d os => have hq := below_regrown wb d os
      have hqs := hq.size
      Calls.regrown_of (hb' ▸ impl_OutOf _ (h.below (hq.mono (by omega))) (by omega) hn hsm)
  have cX : ∀ d os, Calls Try.prog 91 #[.slice A1 n1 c1, .int .i64 a] (grow (redrawn wb d) os) fun e w'' => e = .returned (.bool qx) ∧ ∃ p : Regrown, w'' = grow (redrawn wb p.d) p.os :=
    fun d os => have hq := below_regrown wb d os
      have hqs := hq.size
      Calls.regrown_of ((impl_vecOf a _ (h1.below (hq.mono (by omega))) hn1).mono fun e w' ⟨he, hw⟩ => ⟨he.trans (rB hqx), hw ▸ Below.refl _ _⟩)
  have cT : ∀ d os, Calls Try.prog 91 #[.slice A2 n2 c2, .int .i64 b] (grow (redrawn wb d) os) fun e w'' => e = .returned (.bool qt) ∧ ∃ p : Regrown, w'' = grow (redrawn wb p.d) p.os :=
    fun d os => have hq := below_regrown wb d os
      have hqs := hq.size
      Calls.regrown_of ((impl_vecOf b _ (h2.below (hq.mono (by omega))) hn2).mono fun e w' ⟨he, hw⟩ => ⟨he.trans (rB hqt), hw ▸ Below.refl _ _⟩)
  obtain ⟨qm, hqm⟩ : ∃ q, okMd ds = q := ⟨_, rfl⟩
  rw [hqm] at cM HR
  have CM := hide cM
  have CI := hide cI
  have CO := hide cO
  have CX := hide cX
  have CT := hide cT
  clear cM cI cO cX cT h h1 h2 hn hsm ha hb' hqx hqt hqm hB hB1 hB2 hn1 hn2
  cases qm <;> cases qx <;> cases qt
  all_goals
    go_enter Try.func79, Try.ntmps79
    go_wp2_with fail
    rw [← HW.out]
    refine wp_region_quiet_below (by kernel_rfl) (by kernel_rfl) ?_
    repeat (go_big_quiet_step (first | with_reducible exact CM.out _ _ | with_reducible exact CI.out _ _ | with_reducible exact CO.out _ _ | with_reducible exact CX.out _ _ | with_reducible exact CT.out _ _))
    refine wpQuiet_nil ?_
    intro _ hw'
    obtain ⟨⟨dq, osq⟩, hw''⟩ := hw'
    subst hw''
    have hq_w2 := below_regrown wb dq osq
    generalize grow (redrawn wb dq) osq = w2 at *
    go_wp2_with fail
    go_ret
    exact ⟨rB (by rw [HR.out]; rfl), hb.trans (hq_w2.mono hsb)⟩
set_option maxHeartbeats 1000000 in
theorem impl_BatchOk {B n c B' n' c' : Nat} {A A' : Option Addr} {ds : List OpD} {ps : List PrD} (w : World) (h : RL 4 w B A n c (ds.flatMap opF)) (hB : B ≤ w.heap.size) (hn : n ≤ 1048576) (hsm : SmO ds)
    (h' : RL 2 w B' A' n' c' (ps.flatMap prF)) (hB' : B' ≤ w.heap.size) (hn' : n' ≤ 1048576) (hsm' : SmP ps) :
    Calls Try.prog 55 #[Modv A n c, .slice A' n' c'] w fun e w' => e = .returned (.bool (okBatch ds ps)) ∧ Below w.heap.size w w' := by
  obtain ⟨wb, hwb⟩ : ∃ wb, wb = (w.alloc (.cells #[.slice A n c] 36)) := ⟨_, rfl⟩
  have hb : Below w.heap.size w wb := hwb ▸ (Below.refl _ _).alloc (Nat.le_refl _) _
  have x0 : wb.cell? ⟨w.heap.size, 0, none⟩ = some (.slice A n c) := by rw [hwb]; simp
  have hlt0 : w.heap.size < wb.heap.size := by rw [hwb]; simp
  have hsb := hb.size
  have HW := hide hwb
  have hl := hide (h'.row prF_len (by omega))
  have HSM := hide hsm
  have HSM' := hide hsm'
  clear hwb hsm hsm'
  have HM := hide (impl_ModelOk wb (h.below (hb.mono hB)) (by omega) hn HSM.out)
  obtain ⟨qm, hqm⟩ : ∃ q, okMd ds = q := ⟨_, rfl⟩
  have HQM := hide hqm
  rw [hqm] at HM
  clear hqm
  cases qm
  case false =>
    have HZ := hide (okBatch_md (ps := ps) HQM.out)
    clear h h'
    go_enter Try.func55, Try.ntmps55
    go_wp2_with fail
    rw [← HW.out]
    refine HM.out.mono ?_
    rintro e w1 ⟨rfl, hb1⟩
    go_wp2_with fail
    go_ret
    exact ⟨rB HZ.out.symm, hb.trans (hb1.mono hsb)⟩
  by_cases hc : n' < 1
  · have HZ := hide (okBatch_lo (ds := ds) (ps := ps) (by rw [hl.out]; exact hc))
    clear h h'
    go_enter Try.func55, Try.ntmps55
    go_wp2_with fail
    rw [← HW.out]
    refine HM.out.mono ?_
    rintro e w1 ⟨rfl, hb1⟩
    go_wp2_with fail
    go_ret
    exact ⟨rB HZ.out.symm, hb.trans (hb1.mono hsb)⟩
  by_cases hc : 5 < n'
  · have HZ := hide (okBatch_hi (ds := ds) (ps := ps) (by rw [hl.out]; exact hc))
    clear h h'
    go_enter Try.func55, Try.ntmps55
    go_wp2_with fail
    rw [← HW.out]
    refine HM.out.mono ?_
    rintro e w1 ⟨rfl, hb1⟩
    go_wp2_with fail
    go_ret
    exact ⟨rB HZ.out.symm, hb.trans (hb1.mono hsb)⟩
  have hn1 : 1 ≤ n' := by omega
  have hn5 : n' ≤ 5 := by omega
  clear hn'
  go_enter Try.func55, Try.ntmps55
  go_wp2_with fail
  rw [← HW.out]
  refine HM.out.mono ?_
  rintro e w1 ⟨rfl, hb1⟩
  replace x0 := cellB hb1 x0
  have hbm := hb.trans (hb1.mono hsb)
  have hsm1 := hb1.size
  clear hb1
  go_wp2_with fail
  go_loopw [22] (fun i wr => ∃ k : Nat, k ≤ n' ∧ i = .int .i64 (k : Int) ∧ Hid (∀ (j : Nat) d, j < k → ps[j]? = some d → fitP ds d.x d.t = true) ∧ Below w1.heap.size w1 wr)
    (fun i _ => n' - (intOf i).toNat)
  case atStart => exact ⟨0, Nat.zero_le _, rfl, fun j d hj => absurd hj (by omega), Below.refl _ _⟩
  case round =>
    obtain ⟨k, hk, rfl, hall, hbr⟩ := hrel
    have hbw : Below w.heap.size w wr := hbm.trans (hbr.mono (by omega))
    have hsr := hbr.size
    have y0 : wr.cell? ⟨w.heap.size, 0, none⟩ = some (.slice A n c) := (hbr.cell (p := ⟨w.heap.size, 0, none⟩) (by show w.heap.size < _; omega)).trans x0
    clear x0
    by_cases hlt : k < n'
    · obtain ⟨b, off, d, A1, n1, c1, A2, n2, c2, rfl, hbB, hd, e0, hR, e1, hR2⟩ := h'.prAt hlt
      have hbk : b < w.heap.size := by omega
      have z0 := (hbw.cell (p := ⟨b, off + k * 2, none⟩) hbk).trans e0
      have z1 := (hbw.cell (p := ⟨b, off + k * 2 + 1, none⟩) hbk).trans e1
      have hsd := HSM'.out k d hd
      rw [hR.1, hR2.1] at hsd
      have HF := hide (fun (W : World) (hW : Below wr.heap.size wr W) => impl_fits W ((h.below (hbw.mono hB)).below (hW.mono (by omega))) (by have := hW.size; omega) hn HSM.out ((hR.below (hbw.mono hB')).below (hW.mono (by omega))) (by have := hW.size; omega) hsd.1 ((hR2.below (hbw.mono hB')).below (hW.mono (by omega))) (by have := hW.size; omega) hsd.2)
      have HD := hide hd
      have y0a := fun o => cellB ((Below.refl _ _).alloc (Nat.le_refl _) o) y0
      obtain ⟨q, hq⟩ : ∃ q, fitP ds d.x d.t = q := ⟨_, rfl⟩
      rw [hq] at HF
      have HQ := hide hq
      clear e0 e1 hR hR2 hd h h' hq hsd hn
      cases q
      all_goals
        go_wp2_with fail
        obtain ⟨wc, hwc⟩ : ∃ wc, wc = wr.alloc (.cells #[.slice A1 n1 c1, .slice A2 n2 c2] 38) := ⟨_, rfl⟩
        have hbc : Below wr.heap.size wr wc := hwc ▸ (Below.refl _ _).alloc (Nat.le_refl _) _
        rw [← hwc]
        clear hwc y0a
        have hsc := hbc.size
        refine (HF.out wc hbc).mono ?_
        rintro e w2 ⟨rfl, hb2⟩
        have HBB := hide (hbc.trans (hb2.mono hsc))
        clear hb2 HF
        go_wp2_with fail
      · go_ret
        exact ⟨rB (okBatch_no HD.out HQ.out).symm, hbw.trans (HBB.out.mono hbw.size)⟩
      · go_roundw
        case rel => exact ⟨k + 1, by omega, by go_num, fun j d' hj hd' => by
          by_cases hjk : j < k
          · exact hall.out j d' hjk hd'
          · obtain rfl : j = k := by omega
            rw [HD.out] at hd'
            obtain rfl : d = d' := by simpa using hd'
            exact HQ.out, hbr.trans (HBB.out.mono hsr)⟩
        case measure => simp [intOf]; omega
    · have HT := hide (okBatch_all hl.out HQM.out hn1 hn5 (fun j d hj hd => hall.out j d (by omega) hd))
      clear h h'
      go_wp2_with fail
      go_ret
      exact ⟨rB HT.out.symm, hbw⟩
end Go.Proofs.Ytehfglfbnjdcoaa
