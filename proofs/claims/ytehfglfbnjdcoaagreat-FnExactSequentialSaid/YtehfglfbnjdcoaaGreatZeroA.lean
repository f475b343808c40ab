/-
  Joined: ZeroI, ZeroS.
-/
import Derived.Test.YtehfglfbnjdcoaaGreatGiveG
import Derived.Test.YtehfglfbnjdcoaaGreatVec
import Derived.Test.YtehfglfbnjdcoaaGreatModelI
import Derived.Test.YtehfglfbnjdcoaaGreatModelS
import Derived.WalkKit
import Derived.BigQuiet
import Derived.Deep.DeepMust
import Derived.Deep.RegionHeld3
import Derived.Deep.Cut
import Derived.Deep.RegionLaw
namespace Go.Proofs.YtehfglfbnjdcoaaGreat
open Go.RowKit
set_option maxRecDepth 100000

set_option maxHeartbeats 4000000 in
theorem impl_ZeroGrads {B n c : Nat} {A : Option Addr} {ds : List OpD} (w : World) (h : RL 4 w B A n c (ds.flatMap opF)) (hB : B ≤ w.heap.size) (hn : n ≤ 1048576) (hsm : SmO ds) :
    Calls Tryz.prog 26 #[Modv A n c] w (GiveG w (zeroG ds)) := by
  have hl := hide (h.row opF_len (by omega))
  have HSM := hide hsm
  clear hsm
  obtain ⟨w1, hw1⟩ : ∃ W, W = w.alloc (.cells #[.slice A n c] 34) := ⟨_, rfl⟩
  obtain ⟨w2, hw2⟩ : ∃ W, W = w1.alloc (.cells #[.slice none 0 0, .int .i64 0, .bool false] 30) := ⟨_, rfl⟩
  have s1 : w1.heap.size = w.heap.size + 1 := by rw [hw1]; simp
  have s2 : w2.heap.size = w.heap.size + 1 + 1 := by rw [hw2]; simp [s1]
  have hb2 : Below w.heap.size w w2 := hw2 ▸ (hw1 ▸ (Below.refl _ _).alloc (Nat.le_refl _) _ : Below w.heap.size w w1).alloc (by omega) _
  have pm : w2.heap[w.heap.size]? = some (.cells #[.slice A n c] 34 (0, 0)) := by
    rw [hw2, Below.heap_alloc _ _ _ (by omega), hw1]; exact heap_alloc_new _ _
  have pr : w2.heap[w.heap.size + 1]? = some (.cells #[.slice none 0 0, .int .i64 0, .bool false] 30 (0, 0)) := by
    rw [← s1, hw2]; exact heap_alloc_new _ _
  have x0 := blk_cell pm 0
  simp at x0
  have HW1 := hide hw1
  have HW2 := hide hw2
  clear hw1 hw2 s1
  have HM := hide (fun (W : World) (hW : Below w.heap.size w W) => impl_ModelOk W (h.below (hW.mono hB)) (by have := hW.size; omega) hn HSM.out)
  obtain ⟨qm, hqm⟩ : ∃ q, okMd ds = q := ⟨_, rfl⟩
  cases qm with
  | false =>
    have HZ := hide (show zeroG ds = ⟨[], 0, false⟩ from by rw [zeroG, hqm]; rfl)
    have HM0 := hide (HM.out w2 hb2)
    rw [hqm] at HM0
    clear h hqm
    go_enter Tryz.func26, Tryz.ntmps26
    go_wp2_with fail
    rw [← HW1.out, ← HW2.out]
    refine HM0.out.mono ?_
    rintro e w3 ⟨rfl, hb3⟩
    have hb := hb2.trans (hb3.mono hb2.size)
    have pr := (hb3.block _ (by omega)).trans pr
    have q0 := blk_cell pr 0
    have q1 := blk_cell pr 1
    have q2 := blk_cell pr 2
    have y0 := blk_free pr 0
    have y1 := blk_free pr 1
    have y2 := blk_free pr 2
    simp at q0 q1 q2
    have PR := hide pr
    have HB := hide hb
    clear pr pm hb3 hb hb2 x0 HM0 HM
    go_wp2_with fail
    refine bodyPost_ret (results_cell_row (P := Tryz.prog) (d := _) rfl _ _ (w.heap.size + 1) 30 #[.slice none 0 0, .int .i64 0, .bool false] (0, 0) rfl ?_ Tryz.underlying30 rfl rfl) rfl ?_
    · exact blk_set (blk_set (blk_set PR.out 0 _) 1 _) 2 _
    · rw [HZ.out]
      exact ⟨none, 0, rfl, by simpa using OL.nil _ _ _ _ _ _, below_set (below_set (below_set HB.out _ _ (by omega) _) _ _ (by omega) _) _ _ (by omega) _⟩
  | true =>
    have hlen := okMd_len hqm
    rw [hl.out] at hlen
    obtain ⟨zs, hzs⟩ : ∃ zs, ds.map (fun d => List.replicate d.p.length (0 : Int)) = zs := ⟨_, rfl⟩
    have HZ := hide (show zeroG ds = ⟨zs, 0, false⟩ from by rw [zeroG, if_pos hqm, hzs])
    have HZL := hide (show zs.length = n from by rw [← hzs, List.length_map, hl.out])
    have HST := hide (fun (k : Nat) (d : OpD) (hd : ds[k]? = some d) => show (zs.take (k + 1)).flatMap rowF = (zs.take k).flatMap rowF ++ [.s (List.replicate d.p.length 0)] from by
      have h1 : zs[k]? = some (List.replicate d.p.length 0) := by rw [← hzs, List.getElem?_map, hd]; rfl
      obtain ⟨hk, he⟩ := List.getElem?_eq_some_iff.1 h1
      rw [List.take_succ_eq_append_getElem hk, he, flat_snoc])
    have HB36 := hide (fun (k : Nat) (d : OpD) (hd : ds[k]? = some d) => okOd_len (okMd_op hqm hd))
    clear hzs hn
    have HM0 := hide (HM.out w2 hb2)
    rw [hqm] at HM0
    clear hqm HM
    go_enter Tryz.func26, Tryz.ntmps26
    go_wp2_with fail
    rw [← HW1.out, ← HW2.out]
    refine HM0.out.mono ?_
    rintro e w3 ⟨rfl, hb3⟩
    have hbw := hb2.trans (hb3.mono hb2.size)
    have s3 := hb3.size
    replace pr := (hb3.block _ (by omega)).trans pr
    replace x0 := cellB hb3 x0
    have x0a := fun o => cellB ((Below.refl _ _).alloc (Nat.le_refl _) o) x0
    have PR0 := hide pr
    have HBW := hide hbw
    clear pr pm hb3 hbw HM0
    go_wp2_with fail
    obtain ⟨g, hg⟩ : ∃ g, g = w3.heap.size := ⟨_, rfl⟩
    obtain ⟨w4, hw4⟩ : ∃ W, W = w3.alloc (.cells #[.slice none 0 0, .int .i64 0, .bool false] 30) := ⟨_, rfl⟩
    have hb4 : Below w.heap.size w w4 := hw4 ▸ HBW.out.alloc (by omega) _
    have s4 : w4.heap.size = g + 1 := by rw [hw4, hg]; simp
    have pg : w4.heap[g]? = some (.cells #[.slice none 0 0, .int .i64 0, .bool false] 30 (0, 0)) := by rw [hw4, hg]; exact heap_alloc_new _ _
    have pr : w4.heap[w.heap.size + 1]? = some (.cells #[.slice none 0 0, .int .i64 0, .bool false] 30 (0, 0)) := by rw [hw4, Below.heap_alloc _ _ _ (by omega)]; exact PR0.out
    rw [← hw4, ← hg]
    have hgw : w.heap.size + 2 ≤ g := by omega
    clear hw4 x0 x0a hb2 s2 s3 hg
    go_loopw [14] (fun i wr => ∃ k : Nat, k ≤ n ∧ i = .int .i64 (k : Int) ∧ (∃ A1 c1, wr.heap[g]? = some (.cells #[.slice A1 k c1, .int .i64 0, .bool false] 30 (0, 0)) ∧ OwRows wr (g + 1) wr.heap.size (.slice A1 k c1) k ((zs.take k).flatMap rowF)) ∧ wr.heap[w.heap.size + 1]? = some (.cells #[.slice none 0 0, .int .i64 0, .bool false] 30 (0, 0)) ∧ Below w.heap.size w wr ∧ g + 1 ≤ wr.heap.size)
      (fun i _ => n - (intOf i).toNat)
    case atStart => exact ⟨0, Nat.zero_le _, rfl, ⟨none, 0, pg, by simpa using OL.nil _ _ _ _ _ _⟩, pr, hb4, by omega⟩
    case round =>
      clear pg pr hb4 s4
      obtain ⟨k, hk, rfl, ⟨A1, c1, pg, hown⟩, pr, hb, hsz⟩ := hrel
      by_cases hlt : k < n
      · obtain ⟨b, off, d, A2, n2, c2, rfl, hbB, hd, e0, e1, e2, e3, hR⟩ := h.opAt hlt
        have hbk : b < w.heap.size := by omega
        have hst := HST.out k d hd
        have hn2 : n2 ≤ 36 := by have := HB36.out k d hd; rw [hR.1] at this; exact this
        rw [hR.1] at hst
        have HV := hide hst
        have h1 : (0 : Int) ≤ (k : Int) := by omega
        have h2 : (k : Int) < (n : Int) := by omega
        have z0 := (hb.cell (p := ⟨b, off + k * 4, none⟩) hbk).trans e0
        have z1 := (hb.cell (p := ⟨b, off + k * 4 + 1, none⟩) hbk).trans e1
        have z2 := (hb.cell (p := ⟨b, off + k * 4 + 2, none⟩) hbk).trans e2
        have z3 := (hb.cell (p := ⟨b, off + k * 4 + 3, none⟩) hbk).trans e3
        obtain ⟨wq, hwq⟩ : ∃ W, W = wr.alloc (.cells #[.int .i64 d.k, .int .i64 d.i, .int .i64 d.o, .slice A2 n2 c2] 70) := ⟨_, rfl⟩
        have hbq : Below wr.heap.size wr wq := hwq ▸ (Below.refl _ _).alloc (Nat.le_refl _) _
        have y3 : wq.cell? ⟨wr.heap.size, 3, none⟩ = some (.slice A2 n2 c2) := by rw [hwq]; simp
        have HWQ := hide hwq
        clear hwq e0 e1 e2 e3 hst hd hR h
        go_wp2_with fail
        rw [← HWQ.out]
        clear z0 z1 z2 z3
        have sq := hbq.size
        have hownq := hown.below hbq
        have pgq := (hbq.block _ (by omega)).trans pg
        have prq := (hbq.block _ (by omega)).trans pr
        have hbwq := hb.trans (hbq.mono hb.size)
        have t0 := blk_cell pgq 0
        simp at t0
        have hmk := fun W' : World => run_make_row' (P := Tryz.prog) 47 3 _ _ Tryz.underlying47 int_info rfl .i64 .i64 n2 (by omega) (by omega) W'
        have ta := fun o => cellB ((Below.refl _ _).alloc (Nat.le_refl _) o) t0
        have ya := fun o => cellB ((Below.refl _ _).alloc (Nat.le_refl _) o) y3
        have tb := fun o o' => cellB ((Below.refl _ _).alloc (Nat.le_refl _) o') (ta o)
        have HO := hide ((hownq.more (Nat.le_refl _) sq).below ((Below.refl wq.heap.size wq).drew) : OwRows wq.drew (g + 1) wq.drew.heap.size (.slice A1 k c1) k ((zs.take k).flatMap rowF))
        have PG := hide pgq
        have PR := hide prq
        have HBM := hide hbwq
        have hLO : g + 1 ≤ wq.heap.size := by omega
        have hKK : k < 1073741824 := by omega
        have hN2 : n2 ≤ 1048576 := by omega
        clear hown hownq pg pgq pr prq hb hbq hbwq
        go_region_law (first
          | (refine step_pushMade wq.drew n2 hN2 rfl (.tmp 19) (.tmp 25) _ rfl _ Tryz.underlying28 row_info rfl (g + 1) k c1 A1 ((zs.take k).flatMap rowF) rfl HO.out rfl hLO hKK ?_; intro A3 c3 w5 hO3 hon; have hon : Only (fun b => (Value.slice A1 k c1).ownBlock = some b) wq w5 := ⟨hon.os, hon.tape, hon.output, hon.size, hon.block⟩; have hne : ∀ q, (Value.slice A1 k c1).ownBlock = some q → g + 1 ≤ q := (fun q hq => (HO.out.lt q hq).1); have hs5 : wq.heap.size ≤ w5.heap.size := hon.size; have pg5 := (hon.block g (show g < wq.heap.size by omega) (fun hc => by have := hne _ hc; omega)).trans PG.out; have t05 := blk_cell pg5 0; have f05 := blk_free pg5 0; simp at t05; have PG5 := hide pg5; have HO5 := hide hO3; have HON := hide hon; have HNE := hide hne; clear pg5 hO3 hon hne))
        all_goals go_wp2_with fail
        all_goals go_roundw
        all_goals first
          | (simp [intOf]; omega; done)
          | exact ⟨k + 1, by omega, by go_num, ⟨_, _, blk_set PG5.out 0 _, by
              rw [HV.out]
              exact (HO5.out.only ((Only.refl (fun b => b = g) w5).set g 0 rfl _) (fun p h1 h2 h3 => by have h4 : p = g := h3; omega)).more (Nat.le_refl _) (by simp [World.setCell])⟩,
            (blk_far ((HON.out.block (w.heap.size + 1) (show w.heap.size + 1 < wq.heap.size by omega) (fun hc => by have := HNE.out _ hc; omega)).trans PR.out) (by omega) _),
            below_set (HBM.out.trans (HON.out.below (B := w.heap.size) (by omega) (fun p hp h3 => by have := HNE.out _ h3; omega))) _ _ (by omega) _, by simp only [World.setCell, Array.size_modify]; omega⟩
      · obtain rfl : k = n := by omega
        have HT := hide (show zs.take k = zs from List.take_of_length_le (by rw [HZL.out]; exact Nat.le_refl _))
        have hge : ¬ (k : Int) < (k : Int) := by omega
        have HOW := hide hown
        have HBF := hide hb
        have PRF := hide pr
        have q0 := blk_cell pr 0
        have q1 := blk_cell pr 1
        have q2 := blk_cell pr 2
        have y0 := blk_free pr 0
        have y1 := blk_free pr 1
        have y2 := blk_free pr 2
        have t0 := blk_cell pg 0
        have t1 := blk_cell pg 1
        have t2 := blk_cell pg 2
        simp at q0 q1 q2 t0 t1 t2
        clear pr pg hb hown h
        go_wp2_with fail
        refine bodyPost_ret (results_cell_row (P := Tryz.prog) (d := _) rfl _ _ (w.heap.size + 1) 30 #[.slice A1 k c1, .int .i64 0, .bool false] (0, 0) rfl ?_ Tryz.underlying30 rfl rfl) rfl ?_
        · exact blk_set (blk_set (blk_set PRF.out 0 _) 1 _) 2 _
        · refine giveG (g := zeroG ds) (by rw [HZ.out]; exact HZL.out) (by rw [HZ.out]) (by rw [HZ.out]) rfl ?_ ?_
          · rw [HZ.out, ← HT.out]
            exact (HOW.out.only (((Only.refl (fun b => b = w.heap.size + 1) wr).set (w.heap.size + 1) 0 rfl _).set (w.heap.size + 1) 1 rfl _ |>.set (w.heap.size + 1) 2 rfl _) (fun p h1 h2 h3 => by have h4 : p = w.heap.size + 1 := h3; omega)).more (by omega) (by simp [World.setCell])
          · exact below_set (below_set (below_set HBF.out _ _ (by omega) _) _ _ (by omega) _) _ _ (by omega) _
end Go.Proofs.YtehfglfbnjdcoaaGreat
namespace Go.Proofs.YtehfglfbnjdcoaaGreat
open Go.RowKit
set_option maxRecDepth 100000

set_option maxHeartbeats 4000000 in
theorem spec_ZeroGrads {B n c : Nat} {A : Option Addr} {ds : List OpD} (w : World) (h : RL 4 w B A n c (ds.flatMap opF)) (hB : B ≤ w.heap.size) (hn : n ≤ 1048576) (hsm : SmO ds) :
    Calls Tryz.prog 20 #[Modv A n c] w (GiveG w (zeroG ds)) := by
  have hl := hide (h.row opF_len (by omega))
  have HSM := hide hsm
  clear hsm
  obtain ⟨w1, hw1⟩ : ∃ W, W = w.alloc (.cells #[.slice A n c] 34) := ⟨_, rfl⟩
  obtain ⟨w2, hw2⟩ : ∃ W, W = w1.alloc (.cells #[.slice none 0 0, .int .i64 0, .bool false] 30) := ⟨_, rfl⟩
  have s1 : w1.heap.size = w.heap.size + 1 := by rw [hw1]; simp
  have s2 : w2.heap.size = w.heap.size + 1 + 1 := by rw [hw2]; simp [s1]
  have hb2 : Below w.heap.size w w2 := hw2 ▸ (hw1 ▸ (Below.refl _ _).alloc (Nat.le_refl _) _ : Below w.heap.size w w1).alloc (by omega) _
  have pm : w2.heap[w.heap.size]? = some (.cells #[.slice A n c] 34 (0, 0)) := by
    rw [hw2, Below.heap_alloc _ _ _ (by omega), hw1]; exact heap_alloc_new _ _
  have pr : w2.heap[w.heap.size + 1]? = some (.cells #[.slice none 0 0, .int .i64 0, .bool false] 30 (0, 0)) := by
    rw [← s1, hw2]; exact heap_alloc_new _ _
  have x0 := blk_cell pm 0
  simp at x0
  have HW1 := hide hw1
  have HW2 := hide hw2
  clear hw1 hw2 s1
  have HM := hide (fun (W : World) (hW : Below w.heap.size w W) => spec_ModelOk W (h.below (hW.mono hB)) (by have := hW.size; omega) hn HSM.out)
  obtain ⟨qm, hqm⟩ : ∃ q, okMd ds = q := ⟨_, rfl⟩
  obtain ⟨g, hg⟩ : ∃ g, g = w2.heap.size := ⟨_, rfl⟩
  obtain ⟨w3, hw3⟩ : ∃ W, W = w2.alloc (.cells #[.slice none 0 0, .int .i64 0, .bool false] 30) := ⟨_, rfl⟩
  have hb3 : Below w.heap.size w w3 := hw3 ▸ hb2.alloc (by omega) _
  have s3 : w3.heap.size = g + 1 := by rw [hw3, hg]; simp
  have pg : w3.heap[g]? = some (.cells #[.slice none 0 0, .int .i64 0, .bool false] 30 (0, 0)) := by rw [hw3, hg]; exact heap_alloc_new _ _
  replace pm : w3.heap[w.heap.size]? = some (.cells #[.slice A n c] 34 (0, 0)) := by rw [hw3, Below.heap_alloc _ _ _ (by omega)]; exact pm
  replace pr : w3.heap[w.heap.size + 1]? = some (.cells #[.slice none 0 0, .int .i64 0, .bool false] 30 (0, 0)) := by rw [hw3, Below.heap_alloc _ _ _ (by omega)]; exact pr
  have hgw : g = w.heap.size + 1 + 1 := by omega
  have HW3 := hide hw3
  have HGE := hide hgw
  clear hw3 x0 hb2 hg s2 hgw
  have hgw : w.heap.size + 2 ≤ g := by have := HGE.out; omega
  cases qm with
  | false =>
    have HZ := hide (show zeroG ds = ⟨[], 0, false⟩ from by rw [zeroG, hqm]; rfl)
    have HM0 := hide (hqm ▸ HM.out w3 hb3)
    have x0 := blk_cell pm 0
    simp at x0
    clear h hqm HM
    have HBB := hide hb3
    have PR := hide pr
    have PG := hide pg
    have SS := hide s3
    clear pr pg pm hb3 s3
    go_enter Tryz.func20, Tryz.ntmps20
    go_wp2_with fail
    rw [← HW1.out, ← HW2.out, ← HW3.out, ← HGE.out]
    go_loopw [4] (fun i wr => i = .int .i64 0 ∧ wr = w3) (fun _ _ => 0)
    case atStart => exact ⟨rfl, rfl⟩
    case round =>
      obtain ⟨rfl, rfl⟩ := hrel
      have s3 := SS.out
      by_cases h0 : 0 < n
      · have h0' : (0 : Int) < (n : Int) := by omega
        go_wp2_with fail
        refine HM0.out.mono ?_
        rintro e w4 ⟨rfl, hb4⟩
        have hb := HBB.out.trans (hb4.mono HBB.out.size)
        have pr := (hb4.block _ (by omega)).trans PR.out
        have pg := (hb4.block _ (by omega)).trans PG.out
        have q0 := blk_cell pr 0
        have q1 := blk_cell pr 1
        have q2 := blk_cell pr 2
        have y0 := blk_free pr 0
        have y1 := blk_free pr 1
        have y2 := blk_free pr 2
        have t0 := blk_cell pg 0
        have t1 := blk_cell pg 1
        have t2 := blk_cell pg 2
        simp at q0 q1 q2 t0 t1 t2
        have PR' := hide pr
        have HB := hide hb
        clear pr pg hb
        go_wp2_with fail
        refine bodyPost_ret (results_cell_row (P := Tryz.prog) (d := _) rfl _ _ (w.heap.size + 1) 30 #[.slice none 0 0, .int .i64 0, .bool false] (0, 0) rfl ?_ Tryz.underlying30 rfl rfl) rfl ?_
        · exact blk_set (blk_set (blk_set PR'.out 0 _) 1 _) 2 _
        · rw [HZ.out]
          exact ⟨none, 0, rfl, by simpa using OL.nil _ _ _ _ _ _, below_set (below_set (below_set HB.out _ _ (by omega) _) _ _ (by omega) _) _ _ (by omega) _⟩
      · have h0' : ¬ (0 : Int) < (n : Int) := by omega
        have pr := PR.out
        have pg := PG.out
        have hb := HBB.out
        have q0 := blk_cell pr 0
        have q1 := blk_cell pr 1
        have q2 := blk_cell pr 2
        have y0 := blk_free pr 0
        have y1 := blk_free pr 1
        have y2 := blk_free pr 2
        have t0 := blk_cell pg 0
        have t1 := blk_cell pg 1
        have t2 := blk_cell pg 2
        simp at q0 q1 q2 t0 t1 t2
        have PR' := hide pr
        have HB := hide hb
        clear pr pg hb
        go_wp2_with fail
        refine bodyPost_ret (results_cell_row (P := Tryz.prog) (d := _) rfl _ _ (w.heap.size + 1) 30 #[.slice none 0 0, .int .i64 0, .bool false] (0, 0) rfl ?_ Tryz.underlying30 rfl rfl) rfl ?_
        · exact blk_set (blk_set (blk_set PR'.out 0 _) 1 _) 2 _
        · rw [HZ.out]
          exact ⟨none, 0, rfl, by simpa using OL.nil _ _ _ _ _ _, below_set (below_set (below_set HB.out _ _ (by omega) _) _ _ (by omega) _) _ _ (by omega) _⟩
  | true =>
    have hlen := okMd_len hqm
    rw [hl.out] at hlen
    obtain ⟨zs, hzs⟩ : ∃ zs, ds.map (fun d => List.replicate d.p.length (0 : Int)) = zs := ⟨_, rfl⟩
    have HZ := hide (show zeroG ds = ⟨zs, 0, false⟩ from by rw [zeroG, if_pos hqm, hzs])
    have HZL := hide (show zs.length = n from by rw [← hzs, List.length_map, hl.out])
    have HST := hide (fun (k : Nat) (d : OpD) (hd : ds[k]? = some d) => show (zs.take (k + 1)).flatMap rowF = (zs.take k).flatMap rowF ++ [.s (List.replicate d.p.length 0)] from by
      have h1 : zs[k]? = some (List.replicate d.p.length 0) := by rw [← hzs, List.getElem?_map, hd]; rfl
      obtain ⟨hk, he⟩ := List.getElem?_eq_some_iff.1 h1
      rw [List.take_succ_eq_append_getElem hk, he, flat_snoc])
    have HB36 := hide (fun (k : Nat) (d : OpD) (hd : ds[k]? = some d) => okOd_len (okMd_op hqm hd))
    clear hzs hn
    have HM1 := hide (fun (W : World) (hW : Below w.heap.size w W) => hqm ▸ HM.out W hW)
    clear hqm HM
    have HBB := hide hb3
    have PR := hide pr
    have PG := hide pg
    have PM := hide pm
    have SS := hide s3
    clear pr pg pm hb3 s3
    go_enter Tryz.func20, Tryz.ntmps20
    go_wp2_with fail
    rw [← HW1.out, ← HW2.out, ← HW3.out, ← HGE.out]
    go_loopw [4] (fun i wr => ∃ k : Nat, k ≤ n ∧ i = .int .i64 (k : Int) ∧ (∃ A1 c1, wr.heap[g]? = some (.cells #[.slice A1 k c1, .int .i64 0, .bool false] 30 (0, 0)) ∧ OwRows wr (g + 1) wr.heap.size (.slice A1 k c1) k ((zs.take k).flatMap rowF)) ∧ wr.heap[w.heap.size]? = some (.cells #[.slice A n c] 34 (0, 0)) ∧ wr.heap[w.heap.size + 1]? = some (.cells #[.slice none 0 0, .int .i64 0, .bool false] 30 (0, 0)) ∧ Below w.heap.size w wr ∧ g + 1 ≤ wr.heap.size)
      (fun i _ => n - (intOf i).toNat)
    case atStart => exact ⟨0, Nat.zero_le _, rfl, ⟨none, 0, PG.out, by simpa using OL.nil _ _ _ _ _ _⟩, PM.out, PR.out, HBB.out, by rw [SS.out]; omega⟩
    case round =>
      obtain ⟨k, hk, rfl, ⟨A1, c1, pg, hown⟩, pm, pr, hb, hsz⟩ := hrel
      have x0 := blk_cell pm 0
      simp at x0
      by_cases hlt : k < n
      · obtain ⟨b, off, d, A2, n2, c2, rfl, hbB, hd, e0, e1, e2, e3, hR⟩ := h.opAt hlt
        have hbk : b < w.heap.size := by omega
        have hst := HST.out k d hd
        have hn2 : n2 ≤ 36 := by have := HB36.out k d hd; rw [hR.1] at this; exact this
        rw [hR.1] at hst
        have HV := hide hst
        have h1 : (0 : Int) ≤ (k : Int) := by omega
        have h2 : (k : Int) < (n : Int) := by omega
        go_wp2_with fail
        refine (HM1.out wr hb).mono ?_
        rintro e wq ⟨rfl, hbq⟩
        have y3 := ((hb.trans (hbq.mono hb.size)).cell (p := ⟨b, off + k * 4 + 3, none⟩) hbk).trans e3
        have pm2 := (hbq.block _ (by omega)).trans pm
        have PMQ := hide pm2
        replace x0 := blk_cell pm2 0
        simp at x0
        clear e0 e1 e2 e3 hst hd hR h pm pm2
        go_wp2_with fail
        have sq := hbq.size
        have hownq := hown.below hbq
        have pgq := (hbq.block _ (by omega)).trans pg
        have prq := (hbq.block _ (by omega)).trans pr
        have hbwq := hb.trans (hbq.mono hb.size)
        have t0 := blk_cell pgq 0
        simp at t0
        have hmk := fun W' : World => run_make_row' (P := Tryz.prog) 47 3 _ _ Tryz.underlying47 int_info rfl .i64 .i64 n2 (by omega) (by omega) W'
        have ta := fun o => cellB ((Below.refl _ _).alloc (Nat.le_refl _) o) t0
        have ya := fun o => cellB ((Below.refl _ _).alloc (Nat.le_refl _) o) y3
        have tb := fun o o' => cellB ((Below.refl _ _).alloc (Nat.le_refl _) o') (ta o)
        have xa := fun o => cellB ((Below.refl _ _).alloc (Nat.le_refl _) o) x0
        have HO := hide ((hownq.more (Nat.le_refl _) sq).below ((Below.refl wq.heap.size wq).drew) : OwRows wq.drew (g + 1) wq.drew.heap.size (.slice A1 k c1) k ((zs.take k).flatMap rowF))
        have PG := hide pgq
        have PR := hide prq
        have PM := hide PMQ.out
        have HBM := hide hbwq
        have hLO : g + 1 ≤ wq.heap.size := by omega
        have hKK : k < 1073741824 := by omega
        have hN2 : n2 ≤ 1048576 := by omega
        clear hown hownq pg pgq pr prq hb hbq hbwq
        go_region_law (first
          | (refine step_pushMade wq.drew n2 hN2 rfl (.tmp 18) (.tmp 28) _ rfl _ Tryz.underlying28 row_info rfl (g + 1) k c1 A1 ((zs.take k).flatMap rowF) rfl HO.out rfl hLO hKK ?_; intro A3 c3 w5 hO3 hon; have hon : Only (fun b => (Value.slice A1 k c1).ownBlock = some b) wq w5 := ⟨hon.os, hon.tape, hon.output, hon.size, hon.block⟩; have hne : ∀ q, (Value.slice A1 k c1).ownBlock = some q → g + 1 ≤ q := (fun q hq => (HO.out.lt q hq).1); have hs5 : wq.heap.size ≤ w5.heap.size := hon.size; have pg5 := (hon.block g (show g < wq.heap.size by omega) (fun hc => by have := hne _ hc; omega)).trans PG.out; have t05 := blk_cell pg5 0; have f05 := blk_free pg5 0; simp at t05; have PG5 := hide pg5; have HO5 := hide hO3; have HON := hide hon; have HNE := hide hne; clear pg5 hO3 hon hne))
        all_goals go_wp2_with fail
        all_goals go_roundw
        all_goals first
          | (simp [intOf]; omega; done)
          | exact ⟨k + 1, by omega, by go_num, ⟨_, _, blk_set PG5.out 0 _, by
              rw [HV.out]
              exact (HO5.out.only ((Only.refl (fun b => b = g) w5).set g 0 rfl _) (fun p h1 h2 h3 => by have h4 : p = g := h3; omega)).more (Nat.le_refl _) (by simp [World.setCell])⟩,
            (blk_far ((HON.out.block w.heap.size (show w.heap.size < wq.heap.size by omega) (fun hc => by have := HNE.out _ hc; omega)).trans PM.out) (by omega) _), (blk_far ((HON.out.block (w.heap.size + 1) (show w.heap.size + 1 < wq.heap.size by omega) (fun hc => by have := HNE.out _ hc; omega)).trans PR.out) (by omega) _),
            below_set (HBM.out.trans (HON.out.below (B := w.heap.size) (by omega) (fun p hp h3 => by have := HNE.out _ h3; omega))) _ _ (by omega) _, by simp only [World.setCell, Array.size_modify]; omega⟩
      · obtain rfl : k = n := by omega
        have HT := hide (show zs.take k = zs from List.take_of_length_le (by rw [HZL.out]; exact Nat.le_refl _))
        have hge : ¬ (k : Int) < (k : Int) := by omega
        have HOW := hide hown
        have HBF := hide hb
        have PRF := hide pr
        have q0 := blk_cell pr 0
        have q1 := blk_cell pr 1
        have q2 := blk_cell pr 2
        have y0 := blk_free pr 0
        have y1 := blk_free pr 1
        have y2 := blk_free pr 2
        have t0 := blk_cell pg 0
        have t1 := blk_cell pg 1
        have t2 := blk_cell pg 2
        simp at q0 q1 q2 t0 t1 t2
        clear pr pg hb hown h
        go_wp2_with fail
        refine bodyPost_ret (results_cell_row (P := Tryz.prog) (d := _) rfl _ _ (w.heap.size + 1) 30 #[.slice A1 k c1, .int .i64 0, .bool false] (0, 0) rfl ?_ Tryz.underlying30 rfl rfl) rfl ?_
        · exact blk_set (blk_set (blk_set PRF.out 0 _) 1 _) 2 _
        · refine giveG (g := zeroG ds) (by rw [HZ.out]; exact HZL.out) (by rw [HZ.out]) (by rw [HZ.out]) rfl ?_ ?_
          · rw [HZ.out, ← HT.out]
            exact (HOW.out.only (((Only.refl (fun b => b = w.heap.size + 1) wr).set (w.heap.size + 1) 0 rfl _).set (w.heap.size + 1) 1 rfl _ |>.set (w.heap.size + 1) 2 rfl _) (fun p h1 h2 h3 => by have h4 : p = w.heap.size + 1 := h3; omega)).more (by omega) (by simp [World.setCell])
          · exact below_set (below_set (below_set HBF.out _ _ (by omega) _) _ _ (by omega) _) _ _ (by omega) _
end Go.Proofs.YtehfglfbnjdcoaaGreat
