/-
  The contracts of spec.MicroGrads.
-/
import Derived.Test.YtehfglfbnjdcoaaBackG
import Derived.Test.YtehfglfbnjdcoaaJGive
import Derived.Test.YtehfglfbnjdcoaaLoss
import Derived.Test.YtehfglfbnjdcoaaMicI
import Derived.Test.YtehfglfbnjdcoaaInpS
import Derived.Test.YtehfglfbnjdcoaaBatchS
import Derived.WalkKit
import Derived.BigQuiet
import Derived.Deep.DeepMust
import Derived.Deep.RegionHeld3
import Derived.Deep.Cut
namespace Go.Proofs.Ytehfglfbnjdcoaa
open Go.RowKit
set_option maxRecDepth 100000

set_option maxHeartbeats 4000000 in
theorem spec_MicroGrads {B n c B1 n1 c1 B2 n2 c2 : Nat} {A A1 A2 : Option Addr} {ds : List OpD} {xs ts : List Int} (w : World) (h : RL 4 w B A n c (ds.flatMap opF)) (hB : B ≤ w.heap.size) (hn : n ≤ 1048576) (hsm : SmO ds)
    (h1 : RI w B1 A1 n1 c1 xs) (hB1 : B1 ≤ w.heap.size) (hn1 : n1 ≤ 1048576) (h2 : RI w B2 A2 n2 c2 ts) (hB2 : B2 ≤ w.heap.size) (hn2 : n2 ≤ 1048576) :
    Calls Try.prog 16 #[Modv A n c, Prv A1 n1 c1 A2 n2 c2] w (GiveG w (microG ds xs ts)) := by
  have HL := hide (h.row opF_len (by omega))
  have HSM := hide hsm
  have hx1 : xs.length ≤ 1048576 := by rw [h1.1]; exact hn1
  have hx2 : ts.length ≤ 1048576 := by rw [h2.1]; exact hn2
  obtain ⟨w1, hw1⟩ : ∃ W, W = w.alloc (.cells #[.slice A n c] 36) := ⟨_, rfl⟩
  obtain ⟨w2, hw2⟩ : ∃ W, W = w1.alloc (.cells #[.slice A1 n1 c1, .slice A2 n2 c2] 38) := ⟨_, rfl⟩
  obtain ⟨w3, hw3⟩ : ∃ W, W = w2.alloc (.cells #[.slice none 0 0, .int .i64 0, .bool false] 32) := ⟨_, rfl⟩
  have s1 : w1.heap.size = w.heap.size + 1 := by rw [hw1]; simp
  have s2 : w2.heap.size = w.heap.size + 1 + 1 := by rw [hw2]; simp [s1]
  have s3 : w3.heap.size = w.heap.size + 1 + 1 + 1 := by rw [hw3]; simp [s2]
  have hb3 : Below w.heap.size w w3 := hw3 ▸ (hw2 ▸ (hw1 ▸ (Below.refl _ _).alloc (Nat.le_refl _) _ : Below w.heap.size w w1).alloc (by omega) _ : Below w.heap.size w w2).alloc (by omega) _
  have pm : w3.heap[w.heap.size]? = some (.cells #[.slice A n c] 36 (0, 0)) := by
    rw [hw3, Below.heap_alloc _ _ _ (by omega), hw2, Below.heap_alloc _ _ _ (by omega), hw1]; exact heap_alloc_new _ _
  have pp : w3.heap[w.heap.size + 1]? = some (.cells #[.slice A1 n1 c1, .slice A2 n2 c2] 38 (0, 0)) := by
    rw [hw3, Below.heap_alloc _ _ _ (by omega), ← s1, hw2]; exact heap_alloc_new _ _
  have pr : w3.heap[w.heap.size + 1 + 1]? = some (.cells #[.slice none 0 0, .int .i64 0, .bool false] 32 (0, 0)) := by
    rw [← s2, hw3]; exact heap_alloc_new _ _
  have HW1 := hide hw1
  have HW2 := hide hw2
  have HW3 := hide hw3
  have hlt3 : w.heap.size + 1 + 1 < w3.heap.size := by omega
  clear hw1 hw2 hw3 s1 s2 s3
  have x0 := blk_cell pm 0
  have p0 := blk_cell pp 0
  have p1 := blk_cell pp 1
  simp at x0 p0 p1
  have PR := hide pr
  have HB3 := hide hb3
  have HRM := hide (fun (W : World) (hW : Below w.heap.size w W) => h.below (hW.mono hB))
  have HR1 := hide (fun (W : World) (hW : Below w.heap.size w W) => h1.below (hW.mono hB1))
  have HR2 := hide (fun (W : World) (hW : Below w.heap.size w W) => h2.below (hW.mono hB2))
  clear h h1 h2 pm pp pr hb3
  obtain ⟨q, hq⟩ : ∃ q, fitP ds xs ts = q := ⟨_, rfl⟩
  have HF := hide (fun (W : World) (hW : Below w3.heap.size w3 W) (hWe : W = w3.alloc (.cells #[.slice A1 n1 c1, .slice A2 n2 c2] 38)) => okBatch_one q hq ▸ spec_BatchOk (ps := [⟨xs, ts⟩]) W (HRM.out W (HB3.out.trans (hW.mono HB3.out.size))) (by have := HB3.out.size; have := hW.size; omega) hn HSM.out
    (show RL 2 W (w3.heap.size + 1) (some ⟨w3.heap.size, 0, none⟩) 1 1 _ from by rw [hWe]; exact RL.pair1 (HR1.out w3 HB3.out) (HR2.out w3 HB3.out) (by have := HB3.out.size; omega) (by have := HB3.out.size; omega)) (by rw [hWe]; simp) (by omega) (fun j d hd => by
      match j with
      | 0 => simp at hd; subst hd; exact ⟨hx1, hx2⟩
      | j + 1 => simp at hd))
  cases q
  case false =>
    have HZ := hide (show microG ds xs ts = ⟨[], 0, false⟩ from by rw [microG, hq]; rfl)
    clear hq
    have x0a := fun o => cellB ((Below.refl _ _).alloc (Nat.le_refl _) o) x0
    have p0a := fun o => cellB ((Below.refl _ _).alloc (Nat.le_refl _) o) p0
    have p1a := fun o => cellB ((Below.refl _ _).alloc (Nat.le_refl _) o) p1
    go_enter Try.func16, Try.ntmps16
    go_upto_region 1 with fail
    rw [← HW1.out, ← HW2.out, ← HW3.out]
    go_wp2_with fail
    obtain ⟨wa, hwa⟩ : ∃ W, W = w3.alloc (.cells #[.slice A1 n1 c1, .slice A2 n2 c2] 38) := ⟨_, rfl⟩
    have hba : Below w3.heap.size w3 wa := hwa ▸ (Below.refl _ _).alloc (Nat.le_refl _) _
    rw [← hwa]
    clear x0a p0a p1a
    refine (HF.out wa hba hwa).mono ?_
    rintro e w4 ⟨rfl, hb4'⟩
    have hb4 : Below w3.heap.size w3 w4 := hba.trans (hb4'.mono hba.size)
    clear hwa hba hb4'
    have hbb := HB3.out.trans (hb4.mono HB3.out.size)
    have pr4 := (hb4.block _ (by omega)).trans PR.out
    have q0 := blk_cell pr4 0
    have q1 := blk_cell pr4 1
    have q2 := blk_cell pr4 2
    have y0 := blk_free pr4 0
    have y1 := blk_free pr4 1
    have y2 := blk_free pr4 2
    simp at q0 q1 q2
    have PR4 := hide pr4
    have HBB := hide hbb
    clear hb4 hbb pr4 x0 p0 p1
    go_wp2_with fail
    refine bodyPost_ret (results_cell_row (P := Try.prog) (d := _) rfl _ _ (w.heap.size + 1 + 1) 32 #[.slice none 0 0, .int .i64 0, .bool false] (0, 0) rfl ?_ Try.underlying32 rfl rfl) rfl ?_
    · exact blk_set (blk_set (blk_set PR4.out 0 _) 1 _) 2 _
    · rw [HZ.out]
      exact ⟨none, 0, rfl, by simpa using OL.nil _ _ _ _ _ _, below_set (below_set (below_set HBB.out _ _ (by omega) _) _ _ (by omega) _) _ _ (by omega) _⟩
  case true =>
    have hfx := fit_x hq
    have HIP := hide (inp_yes hfx.1)
    have hlen := okMd_len hfx.2
    rw [HL.out] at hlen
    have HRL := hide (show (insR ds xs).length = n + 1 from by rw [insR_len, HL.out])
    obtain ⟨y, hy⟩ : ∃ y, outV ds xs = y := ⟨_, rfl⟩
    have hyr : (insR ds xs)[n]? = some y := by
      obtain ⟨r, hr⟩ : ∃ r, (insR ds xs)[n]? = some r := ⟨_, List.getElem?_eq_getElem (by rw [HRL.out]; omega)⟩
      have := outV_get (ds := ds) (x := xs) (r := r) (by rw [HL.out]; exact hr)
      rw [hr, ← this, hy]
    have HYR := hide hyr
    have HSR := hide (insR_sm ds xs hx1)
    obtain ⟨e', he'⟩ : ∃ e', vSub y ts = e' := ⟨_, rfl⟩
    have HEL := hide (show e'.length ≤ 6 from by rw [← he']; exact vSub_len ..)
    obtain ⟨lv, hlv⟩ : ∃ lv, lossV y ts = lv := ⟨_, rfl⟩
    obtain ⟨b1, hb1'⟩ : ∃ b, insS ds xs = b := ⟨_, rfl⟩
    obtain ⟨b2, hb2'⟩ : ∃ b, lossS y ts = b := ⟨_, rfl⟩
    obtain ⟨b3, hb3'⟩ : ∃ b, vSubS y ts = b := ⟨_, rfl⟩
    obtain ⟨b4, hb4'⟩ : ∃ b, bkS ds (insR ds xs) e' n = b := ⟨_, rfl⟩
    have HZ := hide (show microG ds xs ts = ⟨bkR ds (insR ds xs) e', lv, b1 || b2 || b3 || b4⟩ from by rw [microG, if_pos hq]; simp only [hy, he', hlv, hb1', hb2', hb3', HL.out, hb4'])
    have HLV := hide hlv
    have HB1' := hide hb1'
    have HB2' := hide hb2'
    have HB3' := hide hb3'
    have HB4' := hide hb4'
    have HE' := hide he'
    clear hy hyr hlv hb1' hb2' hb3' hb4' hfx hq he'
    have x0a := fun o => cellB ((Below.refl _ _).alloc (Nat.le_refl _) o) x0
    have p0a := fun o => cellB ((Below.refl _ _).alloc (Nat.le_refl _) o) p0
    have p1a := fun o => cellB ((Below.refl _ _).alloc (Nat.le_refl _) o) p1
    go_enter Try.func16, Try.ntmps16
    go_upto_region 1 with fail
    rw [← HW1.out, ← HW2.out, ← HW3.out]
    go_wp2_with fail
    obtain ⟨wa, hwa⟩ : ∃ W, W = w3.alloc (.cells #[.slice A1 n1 c1, .slice A2 n2 c2] 38) := ⟨_, rfl⟩
    have hba : Below w3.heap.size w3 wa := hwa ▸ (Below.refl _ _).alloc (Nat.le_refl _) _
    rw [← hwa]
    clear x0a p0a p1a
    refine (HF.out wa hba hwa).mono ?_
    rintro e w4 ⟨rfl, hb4'⟩
    have hb4 : Below w3.heap.size w3 w4 := hba.trans (hb4'.mono hba.size)
    clear hwa hba hb4'
    have hbb := HB3.out.trans (hb4.mono HB3.out.size)
    have pr4 := (hb4.block _ (by omega)).trans PR.out
    have PR4 := hide pr4
    replace x0 := cellB hb4 x0
    replace p0 := cellB hb4 p0
    replace p1 := cellB hb4 p1
    have hs4 := hb4.size
    clear hb4 pr4
    have HIN := hide (flatRn (spec_l7Inputs w4 (HRM.out w4 hbb) (by have := hbb.size; omega) hn HSM.out (HR1.out w4 hbb) (by have := hbb.size; omega) hn1) rfl HB1'.out HRL.out)
    have HBB := hide hbb
    clear hbb
    go_wp2_with fail
    refine HIN.out.mono ?_
    rintro e w5 ⟨A5, c5, rfl, hO5, hb5⟩
    have hs5 := hb5.size
    have hbb5 := HBB.out.trans (hb5.mono HBB.out.size)
    have PR5 := hide ((hb5.block _ (by omega)).trans PR4.out)
    replace x0 := cellB hb5 x0
    replace p0 := cellB hb5 p0
    replace p1 := cellB hb5 p1
    obtain ⟨b6, off6, r6, A6, n6, c6, rfl, hb6, hr6, e6, hR6⟩ := hO5.rl.rowAt (j := n) (by omega)
    obtain rfl : r6 = y := by rw [HYR.out] at hr6; simpa using hr6.symm
    have hn6 : n6 ≤ 1048576 := by rw [← hR6.1]; exact HSR.out n _ HYR.out
    have HR6 := hide hR6
    have HO5 := hide hO5
    have HB5 := hide hbb5
    have g1 : (0 : Int) ≤ (n : Int) := by omega
    have g2 : (n : Int) < (n : Int) + 1 := by omega
    clear hb5 hbb5 hR6 hr6 hO5
    go_wp2_with fail
    refine (HLV.out ▸ HB2'.out ▸ spec_LossOf w5 HR6.out (HR2.out w5 HB5.out) (Nat.le_refl _) (by have := HB5.out.size; omega) hn6 hn2).mono ?_
    rintro e w6 ⟨rfl, hb6'⟩
    have hs6 := hb6'.size
    have HB6 := hide (HB5.out.trans (hb6'.mono HB5.out.size))
    have PR6 := hide ((hb6'.block _ (by omega)).trans PR5.out)
    have HO6 := hide (HO5.out.below hb6')
    have HR6' := hide (HR6.out.below hb6')
    replace x0 := cellB hb6' x0
    replace p0 := cellB hb6' p0
    replace p1 := cellB hb6' p1
    replace e6 := cellB hb6' e6
    clear hb6'
    go_wp2_with fail
    refine (HE'.out ▸ HB3'.out ▸ spec_VecSub w6 HR6'.out (HR2.out w6 HB6.out) (by omega) (by have := HB6.out.size; omega) hn6 hn2).mono ?_
    rintro e w7 ⟨v, rfl, hq7⟩
    obtain ⟨A7, n7, c7, rfl, hO7, hb7⟩ := newI hq7
    have hs7 := hb7.size
    have HB7 := hide (HB6.out.trans (hb7.mono HB6.out.size))
    have PR7 := hide ((hb7.block _ (by omega)).trans PR6.out)
    have HO7 := hide (HO6.out.below hb7)
    have HD7 := hide hO7.ri
    replace x0 := cellB hb7 x0
    replace p0 := cellB hb7 p0
    replace p1 := cellB hb7 p1
    clear hb7 hO7 hq7
    go_wp2_with fail
    refine (backB (spec_l7Back w7 (HRM.out w7 HB7.out) (by have := HB7.out.size; omega) hn HSM.out HO7.out.rl (by omega) (by omega) (by omega) HSR.out HD7.out (Nat.le_refl _) HEL.out) HB4'.out).mono ?_
    rintro e w8 ⟨A8, c8, v8, rfl, hO8, hb8⟩
    have hs8 := hb8.size
    have HB8 := hide (HB7.out.trans (hb8.mono HB7.out.size))
    have pr4 := (hb8.block _ (by omega)).trans PR7.out
    have HO8 := hide hO8
    have q0 := blk_cell pr4 0
    have q1 := blk_cell pr4 1
    have q2 := blk_cell pr4 2
    have y0 := blk_free pr4 0
    have y1 := blk_free pr4 1
    have y2 := blk_free pr4 2
    simp at q0 q1 q2
    have PR8 := hide pr4
    clear hb8 hO8 pr4 x0 p0 p1 e6
    have hbs : b1 = true ∨ (b1 = false ∧ b2 = true) ∨ (b1 = false ∧ b2 = false ∧ b3 = true) ∨ (b1 = false ∧ b2 = false ∧ b3 = false) := by cases b1 <;> cases b2 <;> cases b3 <;> simp
    have hwl : w.heap.size + 1 + 1 < w7.heap.size := by omega
    rcases hbs with rfl | ⟨rfl, rfl⟩ | ⟨rfl, rfl, rfl⟩ | ⟨rfl, rfl, rfl⟩
    · go_wp2_with fail
      refine bodyPost_ret (results_cell_row (P := Try.prog) (d := _) rfl _ _ (w.heap.size + 1 + 1) 32 #[.slice A8 n c8, .int .i64 lv, .bool true] (0, 0) rfl ?_ Try.underlying32 rfl rfl) rfl ?_
      · exact blk_set (blk_set (blk_set PR8.out 0 _) 1 _) 2 _
      · refine giveG (g := microG ds xs ts) (by rw [HZ.out]; show (bkR _ _ _).length = n; rw [bkR, List.length_map, List.length_range, HL.out]) (by rw [HZ.out]) (by rw [HZ.out]; rfl) rfl ?_ ?_
        · rw [HZ.out]
          exact (HO8.out.only (((Only.refl (fun b => b = w.heap.size + 1 + 1) w8).set (w.heap.size + 1 + 1) 0 rfl _).set (w.heap.size + 1 + 1) 1 rfl _ |>.set (w.heap.size + 1 + 1) 2 rfl _) (fun p h1 h2 h3 => by have h4 : p = w.heap.size + 1 + 1 := h3; omega)).more (by omega) (by simp [World.setCell])
        · exact below_set (below_set (below_set HB8.out _ _ (by omega) _) _ _ (by omega) _) _ _ (by omega) _
    · go_wp2_with fail
      refine bodyPost_ret (results_cell_row (P := Try.prog) (d := _) rfl _ _ (w.heap.size + 1 + 1) 32 #[.slice A8 n c8, .int .i64 lv, .bool true] (0, 0) rfl ?_ Try.underlying32 rfl rfl) rfl ?_
      · exact blk_set (blk_set (blk_set PR8.out 0 _) 1 _) 2 _
      · refine giveG (g := microG ds xs ts) (by rw [HZ.out]; show (bkR _ _ _).length = n; rw [bkR, List.length_map, List.length_range, HL.out]) (by rw [HZ.out]) (by rw [HZ.out]; rfl) rfl ?_ ?_
        · rw [HZ.out]
          exact (HO8.out.only (((Only.refl (fun b => b = w.heap.size + 1 + 1) w8).set (w.heap.size + 1 + 1) 0 rfl _).set (w.heap.size + 1 + 1) 1 rfl _ |>.set (w.heap.size + 1 + 1) 2 rfl _) (fun p h1 h2 h3 => by have h4 : p = w.heap.size + 1 + 1 := h3; omega)).more (by omega) (by simp [World.setCell])
        · exact below_set (below_set (below_set HB8.out _ _ (by omega) _) _ _ (by omega) _) _ _ (by omega) _
    · go_wp2_with fail
      refine bodyPost_ret (results_cell_row (P := Try.prog) (d := _) rfl _ _ (w.heap.size + 1 + 1) 32 #[.slice A8 n c8, .int .i64 lv, .bool true] (0, 0) rfl ?_ Try.underlying32 rfl rfl) rfl ?_
      · exact blk_set (blk_set (blk_set PR8.out 0 _) 1 _) 2 _
      · refine giveG (g := microG ds xs ts) (by rw [HZ.out]; show (bkR _ _ _).length = n; rw [bkR, List.length_map, List.length_range, HL.out]) (by rw [HZ.out]) (by rw [HZ.out]; rfl) rfl ?_ ?_
        · rw [HZ.out]
          exact (HO8.out.only (((Only.refl (fun b => b = w.heap.size + 1 + 1) w8).set (w.heap.size + 1 + 1) 0 rfl _).set (w.heap.size + 1 + 1) 1 rfl _ |>.set (w.heap.size + 1 + 1) 2 rfl _) (fun p h1 h2 h3 => by have h4 : p = w.heap.size + 1 + 1 := h3; omega)).more (by omega) (by simp [World.setCell])
        · exact below_set (below_set (below_set HB8.out _ _ (by omega) _) _ _ (by omega) _) _ _ (by omega) _
    · go_wp2_with fail
      refine bodyPost_ret (results_cell_row (P := Try.prog) (d := _) rfl _ _ (w.heap.size + 1 + 1) 32 #[.slice A8 n c8, .int .i64 lv, .bool b4] (0, 0) rfl ?_ Try.underlying32 rfl rfl) rfl ?_
      · exact blk_set (blk_set (blk_set PR8.out 0 _) 1 _) 2 _
      · refine giveG (g := microG ds xs ts) (by rw [HZ.out]; show (bkR _ _ _).length = n; rw [bkR, List.length_map, List.length_range, HL.out]) (by rw [HZ.out]) (by rw [HZ.out]; rfl) rfl ?_ ?_
        · rw [HZ.out]
          exact (HO8.out.only (((Only.refl (fun b => b = w.heap.size + 1 + 1) w8).set (w.heap.size + 1 + 1) 0 rfl _).set (w.heap.size + 1 + 1) 1 rfl _ |>.set (w.heap.size + 1 + 1) 2 rfl _) (fun p h1 h2 h3 => by have h4 : p = w.heap.size + 1 + 1 := h3; omega)).more (by omega) (by simp [World.setCell])
        · exact below_set (below_set (below_set HB8.out _ _ (by omega) _) _ _ (by omega) _) _ _ (by omega) _
end Go.Proofs.Ytehfglfbnjdcoaa
