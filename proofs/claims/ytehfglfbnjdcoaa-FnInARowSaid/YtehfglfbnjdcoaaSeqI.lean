/-
  The contract of impl.Sequential.
-/
import Derived.Test.YtehfglfbnjdcoaaMkN
import Derived.Test.YtehfglfbnjdcoaaJGive
import Derived.Test.YtehfglfbnjdcoaaBatchI
import Derived.Test.YtehfglfbnjdcoaaMicI
import Derived.Test.YtehfglfbnjdcoaaJGrad
import Derived.WalkKit
import Derived.BigQuiet
import Derived.Deep.DeepMust
import Derived.Deep.RegionHeld3
import Derived.Deep.RegionLaw
import Derived.Deep.Cut
namespace Go.Proofs.Ytehfglfbnjdcoaa
open Go.RowKit
set_option maxRecDepth 100000

theorem seqGo_sm : ∀ (ds : List OpD) (g : GrD) (ps : List PrD), SmG 8 36 g.rows → SmG 8 36 (seqGo ds g ps).rows
  | _, _, [], h => h
  | ds, _, _ :: ps, h => seqGo_sm ds _ ps (addG_sm h)
theorem seqG_sm (ds : List OpD) (ps : List PrD) : SmG 8 36 (seqG ds ps).rows := by
  rw [seqG]
  by_cases h : okBatch ds ps = true
  · rw [if_pos h]; exact seqGo_sm _ _ _ (zeroG_sm ds)
  · rw [if_neg h]; exact ⟨by simp, fun d hd => by simp at hd⟩
theorem seqGo_step {ds : List OpD} {g : GrD} {ps : List PrD} {k : Nat} {p : PrD} (h : ps[k]? = some p) : seqGo ds g (ps.take (k + 1)) = addG (seqGo ds g (ps.take k)) (microG ds p.x p.t) := by
  obtain ⟨hk, he⟩ := List.getElem?_eq_some_iff.1 h
  rw [seqGo, seqGo, List.take_succ_eq_append_getElem hk, List.foldl_append, he]; rfl
set_option maxHeartbeats 4000000 in
theorem impl_Sequential {B n c B' n' c' : Nat} {A A' : Option Addr} {ds : List OpD} {ps : List PrD} (w : World) (h : RL 4 w B A n c (ds.flatMap opF)) (hB : B ≤ w.heap.size) (hn : n ≤ 1048576) (hsm : SmO ds)
    (h' : RL 2 w B' A' n' c' (ps.flatMap prF)) (hB' : B' ≤ w.heap.size) (hn' : n' ≤ 1048576) (hsm' : SmP ps) :
    Calls Try.prog 59 #[Modv A n c, .slice A' n' c'] w (GiveG w (seqG ds ps)) := by
  have HL' := hide (h'.row prF_len (by omega))
  have HSM := hide hsm
  have HSM' := hide hsm'
  obtain ⟨w1, hw1⟩ : ∃ W, W = w.alloc (.cells #[.slice A n c] 36) := ⟨_, rfl⟩
  obtain ⟨w2, hw2⟩ : ∃ W, W = w1.alloc (.cells #[.slice none 0 0, .int .i64 0, .bool false] 32) := ⟨_, rfl⟩
  have s1 : w1.heap.size = w.heap.size + 1 := by rw [hw1]; simp
  have s2 : w2.heap.size = w.heap.size + 1 + 1 := by rw [hw2]; simp [s1]
  have hb2 : Below w.heap.size w w2 := hw2 ▸ (hw1 ▸ (Below.refl _ _).alloc (Nat.le_refl _) _ : Below w.heap.size w w1).alloc (by omega) _
  have pm : w2.heap[w.heap.size]? = some (.cells #[.slice A n c] 36 (0, 0)) := by
    rw [hw2, Below.heap_alloc _ _ _ (by omega), hw1]; exact heap_alloc_new _ _
  have pr : w2.heap[w.heap.size + 1]? = some (.cells #[.slice none 0 0, .int .i64 0, .bool false] 32 (0, 0)) := by
    rw [← s1, hw2]; exact heap_alloc_new _ _
  have x0 := blk_cell pm 0
  simp at x0
  have HW1 := hide hw1
  have HW2 := hide hw2
  have hlt2 : w.heap.size + 1 < w2.heap.size := by omega
  clear hw1 hw2 s1 s2
  have PR := hide pr
  have PM := hide pm
  have HB2 := hide hb2
  have HRM := hide (fun (W : World) (hW : Below w.heap.size w W) => h.below (hW.mono hB))
  obtain ⟨q, hq⟩ : ∃ q, okBatch ds ps = q := ⟨_, rfl⟩
  have HF := hide (hq ▸ impl_BatchOk w2 (HRM.out w2 HB2.out) (by have := HB2.out.size; omega) hn HSM.out (h'.below (HB2.out.mono hB')) (by have := HB2.out.size; omega) hn' HSM'.out)
  clear h pm pr hb2 hsm hsm'
  cases q with
  | false =>
    have HZ := hide (show seqG ds ps = ⟨[], 0, false⟩ from by rw [seqG, hq]; rfl)
    clear hq h'
    go_enter Try.func59, Try.ntmps59
    go_wp2_with fail
    rw [← HW1.out, ← HW2.out]
    refine HF.out.mono ?_
    rintro e w4 ⟨rfl, hb4⟩
    have hbb := HB2.out.trans (hb4.mono HB2.out.size)
    have pr4 := (hb4.block _ (by omega)).trans PR.out
    have q0 := blk_cell pr4 0
    have q1 := blk_cell pr4 1
    have q2 := blk_cell pr4 2
    have y0 := blk_free pr4 0
    have y1 := blk_free pr4 1
    have y2 := blk_free pr4 2
    simp at q0 q1 q2
    have PR4 := hide pr4
    have HBB := hide hbb
    clear hb4 hbb pr4 x0
    go_wp2_with fail
    refine bodyPost_ret (results_cell_row (P := Try.prog) (d := _) rfl _ _ (w.heap.size + 1) 32 #[.slice none 0 0, .int .i64 0, .bool false] (0, 0) rfl ?_ Try.underlying32 rfl rfl) rfl ?_
    · exact blk_set (blk_set (blk_set PR4.out 0 _) 1 _) 2 _
    · rw [HZ.out]
      exact ⟨none, 0, rfl, by simpa using OL.nil _ _ _ _ _ _, below_set (below_set (below_set HBB.out _ _ (by omega) _) _ _ (by omega) _) _ _ (by omega) _⟩
  | true =>
    have HZ := hide (show seqG ds ps = seqGo ds (zeroG ds) ps from by rw [seqG, if_pos hq])
    obtain ⟨⟨r0, l0, s0⟩, hg0⟩ : ∃ g, zeroG ds = g := ⟨_, rfl⟩
    have HSM0 : Hid (SmG 8 36 r0) := hide (by have := zeroG_sm ds; rw [hg0] at this; exact this)
    have HG0 := hide hg0
    have HSTEP := hide (fun (k : Nat) (p : PrD) (hp : ps[k]? = some p) => seqGo_step (ds := ds) (g := zeroG ds) hp)
    have h05 : n' ≤ 5 := by
      have := hq
      simp only [okBatch, Bool.and_eq_true, decide_eq_true_eq] at this
      have h5 := this.1.2
      rw [HL'.out] at h5
      exact h5
    clear hq hg0
    go_enter Try.func59, Try.ntmps59
    go_wp2_with fail
    rw [← HW1.out, ← HW2.out]
    refine HF.out.mono ?_
    rintro e w3 ⟨rfl, hb3⟩
    have hbb := HB2.out.trans (hb3.mono HB2.out.size)
    have PR3 := hide ((hb3.block _ (by omega)).trans PR.out)
    have PM3 := hide ((hb3.block _ (by omega)).trans PM.out)
    have hs3 := hb3.size
    replace x0 := cellB hb3 x0
    have HZG := hide (flatG (impl_ZeroGrads w3 (HRM.out w3 hbb) (by have := hbb.size; omega) hn HSM.out) HG0.out)
    have HBB := hide hbb
    clear hb3 hbb
    go_wp2_with fail
    refine HZG.out.mono ?_
    rintro e w4 ⟨A4, c4, rfl, hO4, hb4⟩
    have hs4 := hb4.size
    have HB4 := hide (HBB.out.trans (hb4.mono HBB.out.size))
    have PR4 := hide ((hb4.block _ (by omega)).trans PR3.out)
    have PM4 := hide ((hb4.block _ (by omega)).trans PM3.out)
    have HO4 := hide hO4
    clear hb4 hO4 x0
    go_wp2_with fail
    obtain ⟨G, hG⟩ : ∃ G, G = w4.heap.size := ⟨_, rfl⟩
    obtain ⟨w5, hw5⟩ : ∃ W, W = w4.alloc (.cells #[.slice A4 r0.length c4, .int .i64 l0, .bool s0] 32) := ⟨_, rfl⟩
    have hb5 : Below w4.heap.size w4 w5 := hw5 ▸ (Below.refl _ _).alloc (Nat.le_refl _) _
    have s5 : w5.heap.size = G + 1 := by rw [hw5, hG]; simp
    have PG := hide (show w5.heap[G]? = some (.cells #[.slice A4 r0.length c4, .int .i64 l0, .bool s0] 32 (0, 0)) from by rw [hw5, hG]; exact heap_alloc_new _ _)
    rw [← hw5, ← hG]
    have HO5 := hide (HO4.out.below hb5)
    have HB5 := hide (HB4.out.trans (hb5.mono HB4.out.size))
    have PR5 := hide ((hb5.block _ (by omega)).trans PR4.out)
    have PM5 := hide ((hb5.block _ (by omega)).trans PM4.out)
    have hG3 : w.heap.size + 2 ≤ G := by omega
    have H5L := hide (show w3.heap.size ≤ G ∧ w.heap.size + 2 ≤ w3.heap.size ∧ w4.heap.size = G ∧ w5.heap.size = G + 1 by omega)
    clear hw5 hG hb5 s5
    go_loopw [17] (fun i wr => ∃ k : Nat, k ≤ n' ∧ i = .int .i64 (k : Int) ∧ (∃ A1 c1 rr l1 s1 lo hi, wr.heap[G]? = some (.cells #[.slice A1 rr.length c1, .int .i64 l1, .bool s1] 32 (0, 0)) ∧ OwRows wr lo hi (.slice A1 rr.length c1) rr.length (rr.flatMap rowF) ∧ (w.heap.size + 2 ≤ lo ∧ hi ≤ wr.heap.size ∧ (hi ≤ G ∨ G + 1 ≤ lo)) ∧ Hid (seqGo ds (zeroG ds) (ps.take k) = ⟨rr, l1, s1⟩) ∧ Hid (SmG 8 36 rr)) ∧ wr.heap[w.heap.size]? = some (.cells #[.slice A n c] 36 (0, 0)) ∧ wr.heap[w.heap.size + 1]? = some (.cells #[.slice none 0 0, .int .i64 0, .bool false] 32 (0, 0)) ∧ Below w.heap.size w wr ∧ G + 1 ≤ wr.heap.size)
      (fun i _ => n' - (intOf i).toNat)
    case atStart => exact ⟨0, Nat.zero_le _, rfl, ⟨A4, c4, r0, l0, s0, w3.heap.size, w4.heap.size, PG.out, HO5.out, ⟨H5L.out.2.1, by have := H5L.out; omega, by have := H5L.out; omega⟩, hide HG0.out, HSM0⟩, PM5.out, PR5.out, HB5.out, by have := H5L.out; omega⟩
    case round =>
      obtain ⟨k, hk, rfl, ⟨A1, c1, rr, l1, s1, lo, hi, pg, hown, ⟨hlo, hhi, hap⟩, hsq, hsmg⟩, pm, pr, hb, hsz⟩ := hrel
      clear PG PM5 PR5 HB5 H5L HO5
      have x0 := blk_cell pm 0
      have t0 := blk_cell pg 0
      have t1 := blk_cell pg 1
      have t2 := blk_cell pg 2
      simp at x0 t0 t1 t2
      by_cases hlt : k < n'
      · obtain ⟨b, off, p, A2, n2, c2, A3, n3, c3, rfl, hbB, hp, e0, hR2, e1, hR3⟩ := h'.prAt hlt
        have hbk : b < w.heap.size := by omega
        have hi1 : (0 : Int) ≤ (k : Int) := by omega
        have hi2 : (k : Int) < (n' : Int) := by omega
        have z0 := (hb.cell (p := ⟨b, off + k * 2, none⟩) hbk).trans e0
        have z1 := (hb.cell (p := ⟨b, off + k * 2 + 1, none⟩) hbk).trans e1
        have hsp := HSM'.out k p hp
        rw [hR2.1, hR3.1] at hsp
        have hst := HSTEP.out k p hp
        rw [hsq.out] at hst
        obtain ⟨⟨r5, l5, s5⟩, hg5⟩ : ∃ g, microG ds p.x p.t = g := ⟨_, rfl⟩
        have hsm5 : SmG 8 36 r5 := by have := microG_sm ds p.x p.t; rw [hg5] at this; exact this
        rw [hg5] at hst
        obtain ⟨⟨r6, l6, s6⟩, hg6⟩ : ∃ g, addG ⟨rr, l1, s1⟩ ⟨r5, l5, s5⟩ = g := ⟨_, rfl⟩
        have HSM6 : Hid (SmG 8 36 r6) := hide (by have := addG_sm (a := ⟨rr, l1, s1⟩) (b := ⟨r5, l5, s5⟩) hsmg.out; rw [hg6] at this; exact this)
        rw [hg6] at hst
        have HST := hide hst
        have HG6 := hide hg6
        have HG5 := hide hg5
        have HSM5 := hide hsm5
        obtain ⟨wq, hwq⟩ : ∃ W, W = wr.alloc (.cells #[.slice A2 n2 c2, .slice A3 n3 c3] 38) := ⟨_, rfl⟩
        have hbq : Below wr.heap.size wr wq := hwq ▸ (Below.refl _ _).alloc (Nat.le_refl _) _
        have v0 : wq.cell? ⟨wr.heap.size, 0, none⟩ = some (.slice A2 n2 c2) := by rw [hwq]; simp
        have v1 : wq.cell? ⟨wr.heap.size, 1, none⟩ = some (.slice A3 n3 c3) := by rw [hwq]; simp
        have HWQ := hide hwq
        clear hwq
        have sq := hbq.size
        have hbwq := hb.trans (hbq.mono hb.size)
        have hownq := hown.below hbq
        have t0q := cellB hbq t0
        have t1q := cellB hbq t1
        have t2q := cellB hbq t2
        have x0q := cellB hbq x0
        have HPG := hide ((hbq.block G (by omega)).trans pg)
        have HPM := hide ((hbq.block w.heap.size (by omega)).trans pm)
        have HPR := hide ((hbq.block (w.heap.size + 1) (by omega)).trans pr)
        have HMIC := hide (flatG (impl_MicroGrads wq.drew (HRM.out _ hbwq.drew) (by have := hbwq.size; show B ≤ wq.heap.size; omega) hn HSM.out ((hR2.below (hbwq.mono hB')).drew) (by have := hbwq.size; show B' ≤ wq.heap.size; omega) hsp.1 ((hR3.below (hbwq.mono hB')).drew) (by have := hbwq.size; show B' ≤ wq.heap.size; omega) hsp.2) HG5.out)
        have HADD := hide (fun (W : World) (A5 : Option Addr) (c5 lo5 hi5 : Nat) (h5 : OwRows W lo5 hi5 (.slice A5 r5.length c5) r5.length (r5.flatMap rowF)) (hh5 : hi5 ≤ W.heap.size) (h1 : OwRows W lo hi (.slice A1 rr.length c1) rr.length (rr.flatMap rowF)) (hh1 : hi ≤ W.heap.size) =>
          flatG (impl_AddGrads l1 l5 s1 s5 W h1.rl h5.rl hh1 hh5 (Nat.le_trans hsmg.out.1 (by omega)) (Nat.le_trans HSM5.out.1 (by omega)) (hsmg.out.smR (by omega)) (HSM5.out.smR (by omega))) HG6.out)
        have HOWN := hide hownq
        have HBQ := hide hbwq
        have hle : w.heap.size + 2 ≤ G := hG3
        clear hst hg6 hg5 hsm5 hR2 hR3 hp e0 e1 h' hown hownq pg pm pr hb hbq hbwq hsp hsq
        go_wp2_with fail
        rw [← HWQ.out]
        clear z0 z1 t0 t1 t2 x0
        go_region_law (first
          | (go_simp; go_at_call 19; refine HMIC.out.mono ?_; rintro e w5 ⟨A5, c5, rfl, hO5, hb5⟩; have hb5 : Below wq.heap.size wq w5 := undrew hb5; have hO5 : OwRows w5 wq.heap.size w5.heap.size (.slice A5 r5.length c5) r5.length (r5.flatMap rowF) := hO5; have t05 := cellB hb5 t0q; have t15 := cellB hb5 t1q; have t25 := cellB hb5 t2q)
          | (go_simp; go_at_call 49; refine (HADD.out _ _ _ _ _ hO5 (Nat.le_refl _) (HOWN.out.below hb5) (by have := hb5.size; omega)).mono ?_; rintro e w6 ⟨A6, c6, rfl, hO6, hb6⟩; have pg6 := (hb6.block G (by have := hb5.size; omega)).trans ((hb5.block G (by omega)).trans HPG.out); have PG6 := hide pg6; have r60 := blk_cell pg6 0; have r61 := blk_cell pg6 1; have r62 := blk_cell pg6 2; have f60 := blk_free pg6 0; have f61 := blk_free pg6 1; have f62 := blk_free pg6 2; simp at r60 r61 r62; clear pg6; have HO6 := hide hO6; have HB6 := hide hb6; have HB5 := hide hb5; clear hO6 hb6 hb5 hO5))
        all_goals go_wp2_with fail
        all_goals go_roundw
        all_goals first
          | (simp [intOf]; omega; done)
          | (have h5s := HB5.out.size
             have h6s := HB6.out.size
             exact ⟨k + 1, by omega, by go_num, ⟨A6, c6, r6, l6, s6, w5.heap.size, w6.heap.size, blk_set (blk_set (blk_set PG6.out 0 _) 1 _) 2 _,
               HO6.out.only ((((Only.refl (fun b => b = G) w6).set G 0 rfl _).set G 1 rfl _).set G 2 rfl _) (fun p h1 h2 h3 => by have h4 : p = G := h3; omega), ⟨by omega, by simp [World.setCell], by omega⟩, hide HST.out, HSM6⟩,
               blk_far (blk_far (blk_far ((HB6.out.block w.heap.size (by omega)).trans ((HB5.out.block w.heap.size (by omega)).trans HPM.out)) (by omega) _) (by omega) _) (by omega) _,
               blk_far (blk_far (blk_far ((HB6.out.block (w.heap.size + 1) (by omega)).trans ((HB5.out.block (w.heap.size + 1) (by omega)).trans HPR.out)) (by omega) _) (by omega) _) (by omega) _,
               below_set (below_set (below_set (HBQ.out.trans ((HB5.out.trans (HB6.out.mono h5s)).mono HBQ.out.size)) _ _ (by omega) _) _ _ (by omega) _) _ _ (by omega) _, by simp only [World.setCell, Array.size_modify]; omega⟩)
      · obtain rfl : k = n' := by omega
        have HT := hide (show seqG ds ps = ⟨rr, l1, s1⟩ from by rw [HZ.out, ← hsq.out, List.take_of_length_le (by rw [HL'.out]; exact Nat.le_refl _)])
        have hge : ¬ (k : Int) < (k : Int) := by omega
        have q0 := blk_cell pr 0
        have q1 := blk_cell pr 1
        have q2 := blk_cell pr 2
        have y0 := blk_free pr 0
        have y1 := blk_free pr 1
        have y2 := blk_free pr 2
        simp at q0 q1 q2
        have PRF := hide pr
        have HOW := hide hown
        have HBF := hide hb
        clear pr hown hb h' pg pm
        go_wp2_with fail
        refine bodyPost_ret (results_cell_row (P := Try.prog) (d := _) rfl _ _ (w.heap.size + 1) 32 #[.slice A1 rr.length c1, .int .i64 l1, .bool s1] (0, 0) rfl ?_ Try.underlying32 rfl rfl) rfl ?_
        · exact blk_set (blk_set (blk_set PRF.out 0 _) 1 _) 2 _
        · refine giveG (g := seqG ds ps) (by rw [HT.out]) (by rw [HT.out]) (by rw [HT.out]) rfl ?_ ?_
          · rw [HT.out]
            exact (HOW.out.only (((Only.refl (fun b => b = w.heap.size + 1) wr).set (w.heap.size + 1) 0 rfl _).set (w.heap.size + 1) 1 rfl _ |>.set (w.heap.size + 1) 2 rfl _) (fun p h1 h2 h3 => by have h4 : p = w.heap.size + 1 := h3; omega)).more (by omega) (by simpa [World.setCell] using hhi)
          · exact below_set (below_set (below_set HBF.out _ _ (by omega) _) _ _ (by omega) _) _ _ (by omega) _
end Go.Proofs.Ytehfglfbnjdcoaa
