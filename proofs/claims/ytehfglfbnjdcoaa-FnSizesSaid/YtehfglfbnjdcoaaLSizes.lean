/-
  PROVED HERE: the law 'laws.FnSizes' returns true and leaves its arguments as they were, for every input, without a condition.
-/
import Derived.Test.YtehfglfbnjdcoaaRows
import Derived.Test.YtehfglfbnjdcoaaFrame
import Derived.Test.YtehfglfbnjdcoaaJOpen
import Derived.Test.YtehfglfbnjdcoaaJDrawB
import Derived.Test.YtehfglfbnjdcoaaJPlainZ
import Derived.Test.YtehfglfbnjdcoaaJGrad
import Derived.Test.YtehfglfbnjdcoaaInOfI
import Derived.Test.YtehfglfbnjdcoaaBatchI
import Derived.Test.YtehfglfbnjdcoaaBatchS
import Derived.WalkKit
import Derived.Deep.RegionHeld3
import Derived.ProofKit
import Derived.OpenShut
namespace Go.Proofs.Ytehfglfbnjdcoaa.fnSizes
open Go.ChangeShapes Go.WideShapes Go.ChangeAt Go.RowKit
set_option maxRecDepth 100000
open Go.ChangeMaps (open_string)
set_option linter.unusedVariables false
theorem cells_u8 : Try.prog.cellsOf 5 = 1 := by kernel_rfl
theorem drawGG {B n cap : Nat} {A : Option Addr} (w : World) (hb : BA w B A n cap) (hB : B ≤ w.heap.size) : Calls Try.prog 71 #[.slice A n cap] w fun e w' =>
    ∃ (A1 : Option Addr) (nx c1 : Nat) (xr : List (List Int)) (xl : Int) (xs : Bool) (A2 : Option Addr) (ny c2 : Nat) (yr : List (List Int)) (yl : Int) (ys : Bool), e = .returned (.tuple #[Grv A1 nx c1 xl xs, Grv A2 ny c2 yl ys]) ∧ SmG 8 36 xr ∧ SmG 8 36 yr ∧
      RL 1 w' w'.heap.size A1 nx c1 (xr.flatMap rowF) ∧ RL 1 w' w'.heap.size A2 ny c2 (yr.flatMap rowF) ∧ nx ≤ 8 ∧ ny ≤ 8 ∧ Below w.heap.size w w' :=
  (spec_DrawAddGrads w hb hB).mono fun e w' ⟨A1, c1, x, A2, c2, y, he, hx, hy, r1, r2, hb⟩ => ⟨A1, _, c1, x.rows, x.loss, x.sat, A2, _, c2, y.rows, y.loss, y.sat, he, hx, hy, r1, r2, hx.1, hy.1, hb⟩
set_option maxHeartbeats 8000000 in
set_option maxRecDepth 100000 in
theorem walk (w : World) {A0 : Option Addr} {n0 c0 : Nat} (hC0 : (n0 : Int) ≤ 1048576 → BA w w.heap.size A0 n0 c0) : Calls Try.prog 13 #[.slice A0 n0 c0] w fun e w' => e = .returned (.bool true) ∧ Below w.heap.size w w' := by
  by_cases hL : (1048576 : Int) < (n0 : Int)
  · go_enter Try.func13, Try.ntmps13
    go_wp2_with fail
    refine (laws_big_yes _ _ _ w hL).mono ?_
    rintro e w' ⟨rfl, rfl⟩
    go_wp2_with fail
    go_ret
    exact ⟨rfl, Below.refl _ _⟩
  have hb0 := hide (hC0 (by omega))
  have HL := hide (show (n0 : Int) ≤ 1048576 by omega)
  clear hC0 hL
  go_enter Try.func13, Try.ntmps13
  go_wp2_with fail
  refine (laws_big_no _ _ _ w HL.out).mono ?_
  rintro e w' ⟨rfl, rfl⟩
  go_wp2_with fail
  refine (spec_DrawBatchOk w hb0.out (Nat.le_refl _)).mono ?_
  rintro e w1 ⟨A1, n1, c1, ds, A2, n2, c2, ps, rfl, hn1, hn2, hds, hps, hR, hP, hb1⟩
  have hs1 := hb1.size
  have hnl := hR.row opF_len (by omega)
  have hpl := hP.row prF_len (by omega)
  have HDS := hide hds
  have HPS := hide hps
  obtain ⟨w2, hw2⟩ : ∃ W, W = w1.alloc (.cells #[.slice A1 n1 c1] 36) := ⟨_, rfl⟩
  have hb2 : Below w1.heap.size w1 w2 := hw2 ▸ (Below.refl _ _).alloc (Nat.le_refl _) _
  have hs2 : w1.heap.size < w2.heap.size := by rw [hw2]; simp
  have m0 : w2.cell? ⟨w1.heap.size, 0, none⟩ = some (.slice A1 n1 c1) := by rw [hw2]; simp
  have HW2 := hide hw2
  have HB2 := hide (hb1.trans (hb2.mono hs1))
  have H12 := hide hb2
  have HR := hide (fun (W : World) (hW : Below w1.heap.size w1 W) => hR.below hW)
  have HP := hide (fun (W : World) (hW : Below w1.heap.size w1 W) => hP.below hW)
  have HNL := hide hnl
  have HPL := hide hpl
  clear hw2 hb1 hb2 hR hP hds hps hnl hpl
  obtain ⟨⟨zr, zl, zs⟩, hz⟩ : ∃ g, zeroG ds = g := ⟨_, rfl⟩
  obtain ⟨nz, hnz⟩ : ∃ n, zr.length = n := ⟨_, rfl⟩
  have hsmz := zeroG_sm ds
  rw [hz] at hsmz
  have hnz8 : nz ≤ 8 := by rw [← hnz]; exact hsmz.1
  have hzw := zeroG_words ds
  rw [hz] at hzw
  obtain ⟨ls, hls⟩ : ∃ ls, (zr.map fun d => d.length) = ls := ⟨_, rfl⟩
  rw [show (⟨zr, zl, zs⟩ : GrD).rows = zr from rfl, hls] at hzw
  obtain ⟨NN, hNN⟩ : ∃ x, mWords ds = x := ⟨_, rfl⟩
  rw [hNN] at hzw
  have HZ := hide (fun (W : World) (hW : Below w1.heap.size w1 W) => flatGn (impl_ZeroGrads W (HR.out W hW) hW.size (by omega) HDS.out.smO) hz hnz)
  obtain ⟨bq, hbq⟩ : ∃ q, okBatch ds ps = q := ⟨_, rfl⟩
  obtain ⟨mq, hmq⟩ : ∃ q, okMd ds = q := ⟨_, rfl⟩
  obtain ⟨xi, hxi⟩ : ∃ x, mIn ds = x := ⟨_, rfl⟩
  obtain ⟨yo, hyo⟩ : ∃ x, mOutN ds = x := ⟨_, rfl⟩
  have hxp := mIn_pos ds
  have hyp := mOutN_pos ds
  rw [hxi, hmq] at hxp
  rw [hyo, hmq] at hyp
  have C1 := hide (fun (W : World) (hW : Below w1.heap.size w1 W) => hbq ▸ impl_BatchOk W (HR.out W hW) hW.size (by omega) HDS.out.smO (HP.out W hW) hW.size (by omega) HPS.out.smP)
  have C2 := hide (fun (W : World) (hW : Below w1.heap.size w1 W) => hbq ▸ spec_BatchOk W (HR.out W hW) hW.size (by omega) HDS.out.smO (HP.out W hW) hW.size (by omega) HPS.out.smP)
  have C3 := hide (fun (W : World) (hW : Below w1.heap.size w1 W) => hNN ▸ impl_WordsOf W (HR.out W hW) hW.size (by omega) HDS.out.smO)
  have C4 := hide (fun (W : World) (hW : Below w1.heap.size w1 W) => hxi ▸ impl_InOf W (HR.out W hW) hW.size (by omega) HDS.out.smO)
  have C5 := hide (fun (W : World) (hW : Below w1.heap.size w1 W) => hmq ▸ spec_ModelOk W (HR.out W hW) hW.size (by omega) HDS.out.smO)
  have C6 := hide (fun (W : World) (hW : Below w1.heap.size w1 W) => hyo ▸ impl_OutOf W (HR.out W hW) hW.size (by omega) HDS.out.smO)
  have C7 := hide (fun (W : World) (hW : Below w1.heap.size w1 W) => hmq ▸ impl_ModelOk W (HR.out W hW) hW.size (by omega) HDS.out.smO)
  have HLS := hide hls
  have HNZ := hide hnz
  have HZW := hide hzw
  have hlz : ls.length = nz := by rw [← hls, List.length_map, hnz]
  have HLZ := hide hlz
  have HSZ := hide (sumN_le ls 36 (fun j l hj => by
    rw [← hls, List.getElem?_map, Option.map_eq_some_iff] at hj
    obtain ⟨d, hd, rfl⟩ := hj
    exact hsmz.2 d (List.mem_of_getElem? hd)))
  have HGE := hide (fun (k : Nat) => show sumN (ls.take k) ≤ 288 from by
    have h1 := sumN_le (ls.take k) 36 (fun j l hj => by
      have hj' : ls[j]? = some l := by
        rw [List.getElem?_take] at hj
        split at hj
        · exact hj
        · cases hj
      rw [← hls, List.getElem?_map, Option.map_eq_some_iff] at hj'
      obtain ⟨d, hd, rfl⟩ := hj'
      exact hsmz.2 d (List.mem_of_getElem? hd))
    rw [List.length_take] at h1
    have h2 : min k ls.length ≤ 8 := by omega
    have := Nat.mul_le_mul_right 36 h2
    omega)
  clear hz hsmz hzw hls hnz hNN hbq hmq hxi hyo hlz
  go_wp2_with fail
  rw [← HW2.out]
  refine (HZ.out w2 H12.out).mono ?_
  rintro e w3 ⟨A3, c3, rfl, hO3, hb3⟩
  have hs3 := hb3.size
  obtain ⟨w4, hw4⟩ : ∃ W, W = w3.alloc (.cells #[.slice A3 nz c3, .int .i64 zl, .bool zs] 32) := ⟨_, rfl⟩
  have hb4 : Below w3.heap.size w3 w4 := hw4 ▸ (Below.refl _ _).alloc (Nat.le_refl _) _
  have z0 : w4.cell? ⟨w3.heap.size, 0, none⟩ = some (.slice A3 nz c3) := by rw [hw4]; simp
  have HW4 := hide hw4
  have HB4 := hide ((HB2.out.trans (hb3.mono HB2.out.size)).trans (hb4.mono (by have := HB2.out.size; omega)))
  have H14 := hide ((H12.out.trans (hb3.mono (by omega))).trans (hb4.mono (by omega)))
  replace m0 := cellB hb4 (cellB hb3 m0)
  have HO4 := hide (hO3.below hb4).rl
  clear hw4 hb3 hb4 hO3 HZ HB2 H12
  go_wp2_with fail
  rw [← HW4.out]
  go_loop [6, 7] (fun nv iv => ∃ (k : Nat) (s : Int), k ≤ nz ∧ iv = .int .i64 (k : Int) ∧ nv = .int .i64 s ∧ 0 ≤ s ∧ s ≤ 288 ∧ Hid (s = (sumN (ls.take k) : Int))) (fun _ iv => nz - (intOf iv).toNat)
  case atStart => exact ⟨0, 0, Nat.zero_le _, rfl, rfl, by omega, by omega, hide (by simp [sumN])⟩
  case round =>
    obtain ⟨k, s, hk, rfl, rfl, hs0, hs8, hsv⟩ := hrel
    by_cases hlt : k < nz
    · obtain ⟨b, off, d, A5, n5, c5, rfl, hbB, hd, e0, hR5⟩ := HO4.out.rowAt hlt
      have hlk : ls[k]? = some n5 := by rw [← HLS.out, List.getElem?_map, hd]; simp [hR5.1]
      have hst := sumN_take ls k n5 hlk
      have hle := HGE.out (k + 1)
      rw [hst] at hle
      have hsv' := hsv.out
      have HSV := hide (show s + (n5 : Int) = (sumN (ls.take (k + 1)) : Int) from by rw [hst, hsv']; omega)
      have hb288 : s + (n5 : Int) ≤ 288 := by omega
      have h1 : (0 : Int) ≤ (k : Int) := by omega
      have h2 : (k : Int) < (nz : Int) := by omega
      clear hR5 hd hlk hst hle hsv' hsv
      go_wp2_with fail
      go_round
      case rel => exact ⟨k + 1, s + (n5 : Int), by omega, by go_num, rfl, by omega, by omega, HSV.out⟩
      case measure => simp [intOf]; omega
    · obtain rfl : k = nz := by omega
      have hsN : s = NN := by rw [hsv.out, List.take_of_length_le (by rw [HLZ.out]; exact Nat.le_refl _)]; exact HZW.out
      subst hsN
      have hge : ¬ (k : Int) < (k : Int) := by omega
      have k0 := cell_regrown m0
      have D1 := hide (fun d os => Calls.regrown_of (C1.out (Go.Sort.grow (redrawn w4 d) os) (H14.out.trans ((below_regrown w4 d os).mono H14.out.size))))
      have D2 := hide (fun d os => Calls.regrown_of (C2.out (Go.Sort.grow (redrawn w4 d) os) (H14.out.trans ((below_regrown w4 d os).mono H14.out.size))))
      have D3 := hide (fun d os => Calls.regrown_of (C3.out (Go.Sort.grow (redrawn w4 d) os) (H14.out.trans ((below_regrown w4 d os).mono H14.out.size))))
      have D4 := hide (fun d os => Calls.regrown_of (C4.out (Go.Sort.grow (redrawn w4 d) os) (H14.out.trans ((below_regrown w4 d os).mono H14.out.size))))
      have D5 := hide (fun d os => Calls.regrown_of (C5.out (Go.Sort.grow (redrawn w4 d) os) (H14.out.trans ((below_regrown w4 d os).mono H14.out.size))))
      have D6 := hide (fun d os => Calls.regrown_of (C6.out (Go.Sort.grow (redrawn w4 d) os) (H14.out.trans ((below_regrown w4 d os).mono H14.out.size))))
      have D7 := hide (fun d os => Calls.regrown_of (C7.out (Go.Sort.grow (redrawn w4 d) os) (H14.out.trans ((below_regrown w4 d os).mono H14.out.size))))
      clear C1 C2 C3 C4 C5 C6 C7 hsv HO4
      go_wp2_with fail
      have hxp' : decide (0 < xi) = mq := hxp
      have hyp' : decide (0 < yo) = mq := hyp
      clear hxp hyp
      refine wp_region_quiet_below (by kernel_rfl) (by kernel_rfl) ?_
      repeat (go_big_quiet_step (first | with_reducible exact D1.out _ _ | with_reducible exact D2.out _ _ | with_reducible exact D3.out _ _ | with_reducible exact D4.out _ _ | with_reducible exact D5.out _ _ | with_reducible exact D6.out _ _ | with_reducible exact D7.out _ _))
      refine wpQuiet_nil ?_
      intro _ hw'
      obtain ⟨⟨dq, osq⟩, hw''⟩ := hw'
      subst hw''
      have hq := below_regrown w4 dq osq
      generalize Go.Sort.grow (redrawn w4 dq) osq = w5 at *
      have HB5 := hide (HB4.out.trans (hq.mono HB4.out.size))
      clear hq D1 D2 D3 D4 D5 D6 D7 k0 m0 hxp' hyp' H14 HB4
      go_wp2_with fail
      refine (drawGG w5 (hb0.out.below HB5.out) HB5.out.size).mono ?_
      rintro e w6 ⟨A5, nx, c5, xr, xl, xs, A6, ny, c6, yr, yl, ys, rfl, hX, hY, r1, r2, hnx, hny, hb6⟩
      obtain ⟨⟨gr, gl, gs⟩, hg⟩ : ∃ g, addG ⟨xr, xl, xs⟩ ⟨yr, yl, ys⟩ = g := ⟨_, rfl⟩
      have hg2 : addG ⟨yr, yl, ys⟩ ⟨xr, xl, xs⟩ = ⟨gr, gl, gs⟩ := by rw [addG_comm, hg]
      obtain ⟨ng, hng⟩ : ∃ n, gr.length = n := ⟨_, rfl⟩
      have hsm : SmG 8 36 gr := by have := addG_sm (a := ⟨xr, xl, xs⟩) (b := ⟨yr, yl, ys⟩) hX; rw [hg] at this; exact this
      have hsat := addG_satS (a := ⟨xr, xl, xs⟩) (b := ⟨yr, yl, ys⟩) (s := gs) (by rw [hg])
      have hng8 : ng ≤ 8 := by rw [← hng]; exact hsm.1
      have hs6 := hb6.size
      have HB6 := hide (HB5.out.trans (hb6.mono HB5.out.size))
      have HG1 := hide (fun (W : World) (hW : Below w6.heap.size w6 W) => flatGn (impl_AddGrads xl yl xs ys W (r1.below hW) (r2.below hW) hW.size hW.size (by omega) (by omega) (hX.smR (by omega)) (hY.smR (by omega))) hg hng)
      have HG2 := hide (fun (W : World) (hW : Below w6.heap.size w6 W) => flatGn (impl_AddGrads yl xl ys xs W (r2.below hW) (r1.below hW) hW.size hW.size (by omega) (by omega) (hY.smR (by omega)) (hX.smR (by omega))) hg2 hng)
      have HSM := hide hsm
      obtain ⟨w7, hw7⟩ : ∃ W, W = w6.alloc (.cells #[.slice A5 nx c5, .int .i64 xl, .bool xs] 32) := ⟨_, rfl⟩
      obtain ⟨w8, hw8⟩ : ∃ W, W = w7.alloc (.cells #[.slice A6 ny c6, .int .i64 yl, .bool ys] 32) := ⟨_, rfl⟩
      have s7 : w7.heap.size = w6.heap.size + 1 := by rw [hw7]; simp
      have s8 : w8.heap.size = w6.heap.size + 1 + 1 := by rw [hw8]; simp [s7]
      have hb8 : Below w6.heap.size w6 w8 := hw8 ▸ (hw7 ▸ (Below.refl _ _).alloc (Nat.le_refl _) _ : Below w6.heap.size w6 w7).alloc (by omega) _
      have px : w8.heap[w6.heap.size]? = some (.cells #[.slice A5 nx c5, .int .i64 xl, .bool xs] 32 (0, 0)) := by
        rw [hw8, Below.heap_alloc _ _ _ (by omega), hw7]; exact heap_alloc_new _ _
      have py : w8.heap[w6.heap.size + 1]? = some (.cells #[.slice A6 ny c6, .int .i64 yl, .bool ys] 32 (0, 0)) := by
        rw [← s7, hw8]; exact heap_alloc_new _ _
      have x0 := blk_cell px 0
      have x1 := blk_cell px 1
      have x2 := blk_cell px 2
      have y0 := blk_cell py 0
      have y1 := blk_cell py 1
      have y2 := blk_cell py 2
      simp at x0 x1 x2 y0 y1 y2
      have HW7 := hide hw7
      have HW8 := hide hw8
      have HB8 := hide (HB6.out.trans (hb8.mono HB6.out.size))
      have H68 := hide hb8
      clear hg hg2 hng hsm hX hY r1 r2 hb6 hw7 hw8 s7 s8 hb8 px py
      go_wp2_with fail
      rw [← HW7.out, ← HW8.out]
      refine (HG1.out w8 H68.out).mono ?_
      rintro e w9 ⟨A9, c9, rfl, hO9, hb9⟩
      have x0a := fun o => cellB ((Below.refl _ _).alloc (Nat.le_refl _) o) (cellB hb9 x0)
      have x1a := fun o => cellB ((Below.refl _ _).alloc (Nat.le_refl _) o) (cellB hb9 x1)
      have x2a := fun o => cellB ((Below.refl _ _).alloc (Nat.le_refl _) o) (cellB hb9 x2)
      have y0a := fun o => cellB ((Below.refl _ _).alloc (Nat.le_refl _) o) (cellB hb9 y0)
      have y1a := fun o => cellB ((Below.refl _ _).alloc (Nat.le_refl _) o) (cellB hb9 y1)
      have y2a := fun o => cellB ((Below.refl _ _).alloc (Nat.le_refl _) o) (cellB hb9 y2)
      obtain ⟨wa, hwa⟩ : ∃ W, W = w9.alloc (.cells #[.slice A9 ng c9, .int .i64 gl, .bool gs] 32) := ⟨_, rfl⟩
      have hba : Below w9.heap.size w9 wa := hwa ▸ (Below.refl _ _).alloc (Nat.le_refl _) _
      have g0 : wa.cell? ⟨w9.heap.size, 0, none⟩ = some (.slice A9 ng c9) := by rw [hwa]; simp
      have g1 : wa.cell? ⟨w9.heap.size, 1, none⟩ = some (.int .i64 gl) := by rw [hwa]; simp
      have g2 : wa.cell? ⟨w9.heap.size, 2, none⟩ = some (.bool gs) := by rw [hwa]; simp
      have HWA := hide hwa
      have hs9 := hb9.size
      have hsa := hba.size
      have HBA := hide ((HB8.out.trans (hb9.mono HB8.out.size)).trans (hba.mono (by have := HB8.out.size; omega)))
      have H6A := hide ((H68.out.trans (hb9.mono H68.out.size)).trans (hba.mono (by have := H68.out.size; omega)))
      replace x0 := cellB hba (cellB hb9 x0)
      replace x1 := cellB hba (cellB hb9 x1)
      replace x2 := cellB hba (cellB hb9 x2)
      replace y0 := cellB hba (cellB hb9 y0)
      replace y1 := cellB hba (cellB hb9 y1)
      replace y2 := cellB hba (cellB hb9 y2)
      have HO9 := hide (hO9.below hba)
      clear hwa hb9 hba hO9
      go_wp2_with fail
      rw [← HWA.out]
      clear x0a x1a x2a y0a y1a y2a
      refine (HG2.out wa H6A.out).mono ?_
      rintro e wb ⟨Ab, cb, rfl, hOb, hbb⟩
      have g0a := fun o => cellB ((Below.refl _ _).alloc (Nat.le_refl _) o) (cellB hbb g0)
      have g1a := fun o => cellB ((Below.refl _ _).alloc (Nat.le_refl _) o) (cellB hbb g1)
      have g2a := fun o => cellB ((Below.refl _ _).alloc (Nat.le_refl _) o) (cellB hbb g2)
      have x2a := fun o => cellB ((Below.refl _ _).alloc (Nat.le_refl _) o) (cellB hbb x2)
      obtain ⟨wc, hwc⟩ : ∃ W, W = wb.alloc (.cells #[.slice Ab ng cb, .int .i64 gl, .bool gs] 32) := ⟨_, rfl⟩
      have hbc : Below wb.heap.size wb wc := hwc ▸ (Below.refl _ _).alloc (Nat.le_refl _) _
      have h0 : wc.cell? ⟨wb.heap.size, 0, none⟩ = some (.slice Ab ng cb) := by rw [hwc]; simp
      have h1 : wc.cell? ⟨wb.heap.size, 1, none⟩ = some (.int .i64 gl) := by rw [hwc]; simp
      have h2 : wc.cell? ⟨wb.heap.size, 2, none⟩ = some (.bool gs) := by rw [hwc]; simp
      have HWC := hide hwc
      have hsb := hbb.size
      have hsc := hbc.size
      have HBC := hide ((HBA.out.trans (hbb.mono HBA.out.size)).trans (hbc.mono (by have := HBA.out.size; omega)))
      replace x2 := cellB hbc (cellB hbb x2)
      replace g0 := cellB hbc (cellB hbb g0)
      replace g1 := cellB hbc (cellB hbb g1)
      replace g2 := cellB hbc (cellB hbb g2)
      have HSG := hide (spec_SameGrads gl gl gs gs wc ((HO9.out.below hbb).below hbc).rl (hOb.below hbc).rl (by omega) (by omega) (by omega) (by omega) (HSM.out.smR (by omega)) (HSM.out.smR (by omega)))
      have HSG : Hid (Calls Try.prog 50 #[Grv A9 ng c9 gl gs, Grv Ab ng cb gl gs] wc fun e w' => e = .returned (.bool true) ∧ Below wc.heap.size wc w') := hide (by simpa using HSG.out)
      clear hwc hbb hbc hOb x0 x1 y0 y1 y2 HO9
      cases xs <;> cases gs <;> simp only [Bool.not_true, Bool.not_false, Bool.or_false, Bool.or_true, Bool.false_or, Bool.true_or, Bool.false_eq_true] at hsat
      all_goals
        go_wp2_with fail
        rw [← HWC.out]
        clear g0a g1a g2a x2a
        refine HSG.out.mono ?_
        rintro e wd ⟨rfl, hbd⟩
        replace x2 := cellB hbd x2
        replace g2 := cellB hbd g2
        have HBD := hide (HBC.out.trans (hbd.mono HBC.out.size))
        clear hbd
        go_wp2_with fail
        go_ret
        exact ⟨rfl, HBD.out⟩
set_option maxRecDepth 100000 in
theorem lifted (os : Os) (started : os.Started) (H : Type) (enc : TypeId × Value → H) :
    ReturnsInHanded {} Try.checked os 13 .any (Rows.fnSizesSpec.pre6 enc Try.prog Try.f13 Rows.fnSizesRow.domain false) (Rows.fnSizesSpec.post enc Try.prog Try.f13 false true false false) := by
  refine law_lifted (C := Try.checked) (f := 13) (fn := Try.f13) (tb := 4) os (by kernel_rfl) started (by kernel_rfl) Try.func13 (by kernel_rfl) (by kernel_rfl) rfl Try.underlying4 rfl (fun H ds h => ?_) H enc
    (ChangeSpec.witness6 (enc := enc) (C := Try.checked) false ⟨#[], #[.slice none 0 0], []⟩ 8 (by kernel_rfl) (by kernel_rfl) (by kernel_rfl) (by kernel_rfl)) ?_
  · rw [show Try.f13.params.size = 1 from by kernel_rfl] at h
    match ds, h with
    | [d0], _ => rfl
  intro W base args ds ps hval hA hlt
  have hval : ∀ (j : Nat) t v, Try.f13.params[j]? = some t → args[j]? = some v → Value.okWide Try.prog W .any base t v := hval
  have hA : DataW.TrodAll enc Try.prog W 0 (fun _ => true) true Try.f13.params.toList args.toList ds ps := hA
  rw [Try.params13] at hA hval
  obtain ⟨v0, vs0, d0, ds0, p0, q0, hargs, rfl, rfl, h0, r0⟩ := trodAll_cons hA
  obtain ⟨rfl, rfl, rfl⟩ := trodAll_nil r0
  obtain rfl : args = #[v0] := by cases args; simp_all
  obtain ⟨A0, n0, c0, rfl, hC0⟩ := openB Try.underlying84 Try.underlying5 cells_u8 (hval 0 84 v0 rfl rfl) h0 (fun x hx => hlt x (by simp [hx]))
  exact walk W hC0
theorem proved : Rows.FnSizesSaid :=
  OpenClaim.holds_of_wide 13 Try.f13 rfl rfl rfl rfl rfl rfl rfl ⟨rfl, rfl, rfl, rfl, rfl⟩ rfl rfl rfl rfl rfl (by kernel_rfl) Try.func13 (by kernel_rfl)
    (of_decide_eq_true (by kernel_rfl)) (by unfold Func.isWrapper; first | (rw [if_pos (by decide +kernel)]; kernel_rfl) | (rw [if_neg (by decide +kernel)]; exact ⟨rfl, rfl⟩))
    (fun os started H enc _ => lifted os started H enc)
#print axioms proved
end Go.Proofs.Ytehfglfbnjdcoaa.fnSizes
