/-
  PROVED HERE: the law 'laws.FnOps' returns true and leaves its arguments as they were, for every input, without a condition.
-/
import Derived.Test.YtehfglfbnjdcoaaRows
import Derived.Test.YtehfglfbnjdcoaaFrame
import Derived.Test.YtehfglfbnjdcoaaOpenB
import Derived.Test.YtehfglfbnjdcoaaPlainY
import Derived.Test.YtehfglfbnjdcoaaDrawO
import Derived.Test.YtehfglfbnjdcoaaOpF
import Derived.Test.YtehfglfbnjdcoaaOpB
import Derived.Test.YtehfglfbnjdcoaaCost
import Derived.Test.YtehfglfbnjdcoaaGiveG
import Derived.Test.YtehfglfbnjdcoaaOp3
import Derived.Test.YtehfglfbnjdcoaaVec
import Derived.WalkKit
import Derived.Deep.RegionHeld3
import Derived.ProofKit
import Derived.OpenShut
namespace Go.Proofs.Ytehfglfbnjdcoaa.fnOps
open Go.ChangeShapes Go.WideShapes Go.ChangeAt Go.RowKit
set_option maxRecDepth 100000
open Go.ChangeMaps (open_string)
set_option linter.unusedVariables false
theorem cells_u8 : Try.prog.cellsOf 5 = 1 := by kernel_rfl
set_option maxHeartbeats 8000000 in
set_option maxRecDepth 100000 in
theorem walk (w : World) {A0 : Option Addr} {n0 c0 : Nat} (hC0 : (n0 : Int) ≤ 1048576 → BA w w.heap.size A0 n0 c0) : Calls Try.prog 12 #[.slice A0 n0 c0] w fun e w' => e = .returned (.bool true) ∧ Below w.heap.size w w' := by
  by_cases hL : (1048576 : Int) < (n0 : Int)
  · go_enter Try.func12, Try.ntmps12
    go_wp2_with fail
    refine (laws_big_yes _ _ _ w hL).mono ?_
    rintro e w' ⟨rfl, rfl⟩
    go_wp2_with fail
    go_ret
    exact ⟨rfl, Below.refl _ _⟩
  have hb0 := hide (hC0 (by omega))
  have HL := hide (show (n0 : Int) ≤ 1048576 by omega)
  clear hC0 hL
  go_enter Try.func12, Try.ntmps12
  go_wp2_with fail
  refine (laws_big_no _ _ _ w HL.out).mono ?_
  rintro e w' ⟨rfl, rfl⟩
  go_wp2_with fail
  refine (spec_DrawOpBackward w hb0.out (Nat.le_refl _)).mono ?_
  rintro e w1 ⟨k, i, o, A1, n1, c1, A2, n2, c2, A3, n3, c3, xs, ys, zs, rfl, hxl, hyl, hzl, hR, hX, hD, hb1⟩
  have hn1 : n1 ≤ 1048576 := by rw [← hR.1]; omega
  have hn2 : n2 ≤ 7 := by rw [← hX.1]; omega
  have hn3 : n3 ≤ 7 := by rw [← hD.1]; omega
  have HLX := hide hX.1
  have HLD := hide hD.1
  have hs1 := hb1.size
  obtain ⟨w2, hw2⟩ : ∃ W, W = w1.alloc (.cells #[.int .i64 k, .int .i64 i, .int .i64 o, .slice A1 n1 c1] 52) := ⟨_, rfl⟩
  have hb2 : Below w1.heap.size w1 w2 := hw2 ▸ (Below.refl _ _).alloc (Nat.le_refl _) _
  have hs_w2 := hb2.size
  have m0 : w2.cell? ⟨w1.heap.size, 0, none⟩ = some (.int .i64 k) := by rw [hw2]; simp
  have m1 : w2.cell? ⟨w1.heap.size, 1, none⟩ = some (.int .i64 i) := by rw [hw2]; simp
  have m2 : w2.cell? ⟨w1.heap.size, 2, none⟩ = some (.int .i64 o) := by rw [hw2]; simp
  have m3 : w2.cell? ⟨w1.heap.size, 3, none⟩ = some (.slice A1 n1 c1) := by rw [hw2]; simp
  have HW2 := hide hw2
  have HB_w2 := hide (hb1.trans (hb2.mono hs1))
  have H1_w2 := hide hb2
  have HR := hide (fun (W : World) (hW : Below w1.heap.size w1 W) => hR.below hW)
  have HX := hide (fun (W : World) (hW : Below w1.heap.size w1 W) => hX.below hW)
  have HD := hide (fun (W : World) (hW : Below w1.heap.size w1 W) => hD.below hW)
  obtain ⟨D, hDD⟩ : ∃ D : OpD, D = ⟨k, i, o, xs⟩ := ⟨_, rfl⟩
  have HDD := hide hDD
  obtain ⟨Y, hY⟩ : ∃ Y, fw D ys = Y := ⟨_, rfl⟩
  obtain ⟨s4, hs4⟩ : ∃ s, fwS D ys = s := ⟨_, rfl⟩
  obtain ⟨V, hV⟩ : ∃ V, bw D ys zs = V := ⟨_, rfl⟩
  obtain ⟨U, hU⟩ : ∃ U, bwG D ys zs = U := ⟨_, rfl⟩
  obtain ⟨s5, hs5⟩ : ∃ s, bwS D ys zs = s := ⟨_, rfl⟩
  have HFW := hide (fun (W : World) (hW : Below w1.heap.size w1 W) => (hY ▸ hs4 ▸ hDD ▸ impl_OpForward k i o W (HR.out W hW) (HX.out W hW) hW.size hW.size hn1 (by omega) : Calls Try.prog 31 #[Opv k i o A1 n1 c1, .slice A2 n2 c2] W (GivesB s4 (NI W Y))))
  have HBW := hide (fun (W : World) (hW : Below w1.heap.size w1 W) => (hV ▸ hU ▸ hs5 ▸ hDD ▸ impl_OpBackward k i o W (HR.out W hW) (HX.out W hW) (HD.out W hW) hW.size hW.size hW.size hn1 (by omega) (by omega) : Calls Try.prog 38 #[Opv k i o A1 n1 c1, .slice A2 n2 c2, .slice A3 n3 c3] W (Back2 s5 W V U)))
  have hYl : Y.length ≤ 6 := by rw [← hY]; exact fw_len ..
  have hVl : V.length ≤ 6 := by rw [← hV]; exact bw_len ..
  have hUl : U.length ≤ 36 := by rw [← hU]; exact bwG_len ..
  have HY := hide hY
  have HV := hide hV
  have HU := hide hU
  have HS5 := hide hs5
  clear hY hs4 hV hU hs5 hDD hR hX hD hw2 hb1 hb2 hb0
  go_wp2_with fail
  rw [← HW2.out]
  refine (HFW.out w2 H1_w2.out).mono ?_
  rintro e w3 ⟨v, rfl, hq⟩
  obtain ⟨A4, n4, c4, rfl, hO4, hb⟩ := newI hq
  clear hq
  have hs_w3 := hb.size
  have HB_w3 := hide (HB_w2.out.trans (hb.mono HB_w2.out.size))
  have H1_w3 := hide (H1_w2.out.trans (hb.mono H1_w2.out.size))
  replace m0 := cellB hb m0
  replace m1 := cellB hb m1
  replace m2 := cellB hb m2
  replace m3 := cellB hb m3
  clear hb
  go_wp2_with fail
  refine (HBW.out w3 H1_w3.out).mono ?_
  rintro e w4 ⟨v, u, mid, rfl, hm1, hm2, hO5, hO6, hb⟩
  obtain ⟨A5, n5, c5, rfl, _⟩ := hO5.rv
  obtain ⟨A6, n6, c6, rfl, _⟩ := hO6.rv
  have hs_w4 := hb.size
  have HB_w4 := hide (HB_w3.out.trans (hb.mono HB_w3.out.size))
  have H1_w4 := hide (H1_w3.out.trans (hb.mono H1_w3.out.size))
  replace m0 := cellB hb m0
  replace m1 := cellB hb m1
  replace m2 := cellB hb m2
  replace m3 := cellB hb m3
  replace hO4 := hO4.below hb
  clear hb
  have hn4 : Y.length = n4 := hO4.ri.1
  have hn5 : V.length = n5 := hO5.ri.1
  have hn6 : U.length = n6 := hO6.ri.1
  have HN4 := hide hn4
  have HN5 := hide hn5
  have HN6 := hide hn6
  have hn4' : n4 ≤ 6 := by omega
  have hn5' : n5 ≤ 6 := by omega
  have hn6' : n6 ≤ 36 := by omega
  clear hn4 hn5 hn6 HFW HBW
  obtain ⟨okp, hokp⟩ : ∃ q, okO k i o xs = q := ⟨_, rfl⟩
  obtain ⟨okv, hokv⟩ : ∃ q, okV ys = q := ⟨_, rfl⟩
  obtain ⟨okl, hokl⟩ : ∃ q, decide ((n2 : Int) = i) = q := ⟨_, rfl⟩
  have HOKP := hide (fun (W : World) (hW : Below w1.heap.size w1 W) => (hokp ▸ spec_OpOk k i o W (HR.out W hW) hW.size hn1 : Calls Try.prog 61 #[Opv k i o A1 n1 c1] W fun e w' => e = .returned (.bool okp) ∧ Below W.heap.size W w'))
  have HOKV := hide (fun (W : World) (hW : Below w1.heap.size w1 W) => (hokv ▸ spec_VecOk W (HX.out W hW) (by omega) : Calls Try.prog 62 #[.slice A2 n2 c2] W fun e w' => e = .returned (.bool okv) ∧ W = w'))
  have heql : ((n2 : Int) == i) = okl := by rw [← hokl]; by_cases hh : (n2 : Int) = i <;> simp [hh]
  have HFO := hide (show fwOk D ys = (okp && okv && okl) from by rw [HDD.out, fwOk, okOd, hokp, hokv, HLX.out, hokl])
  have HOL := hide hokl
  clear hokp hokv hokl
  cases okp
  · have HF := hide (show fwOk D ys = false from by rw [HFO.out]; simp)
    have HY0 : Hid (Y = []) := hide (by rw [← HY.out]; exact (fw_no HF.out).1)
    obtain rfl : n4 = 0 := by rw [← HN4.out, HY0.out]; rfl
    have HB0 := hide (show bwOk D ys zs = false from by rw [bwOk, HF.out]; rfl)
    have HV0 : Hid (V = []) := hide (by rw [← HV.out]; exact (bw_no HB0.out).1)
    have HU0 : Hid (U = []) := hide (by rw [← HU.out]; exact (bw_no HB0.out).2.1)
    obtain rfl : s5 = false := by rw [← HS5.out]; exact (bw_no HB0.out).2.2
    obtain rfl : n5 = 0 := by rw [← HN5.out, HV0.out]; rfl
    obtain rfl : n6 = 0 := by rw [← HN6.out, HU0.out]; rfl
    go_wp2_with fail
    refine (HOKP.out w4 H1_w4.out).mono ?_
    rintro e w5 ⟨rfl, hb⟩
    have hs_w5 := hb.size
    have HB_w5 := hide (HB_w4.out.trans (hb.mono HB_w4.out.size))
    have H1_w5 := hide (H1_w4.out.trans (hb.mono H1_w4.out.size))
    replace m0 := cellB hb m0
    replace m1 := cellB hb m1
    replace m2 := cellB hb m2
    replace m3 := cellB hb m3
    replace hO4 := hO4.below hb
    replace hO5 := hO5.below hb
    replace hO6 := hO6.below hb
    clear hb
    go_wp2_with fail
    go_ret
    exact ⟨rfl, HB_w5.out⟩
  go_wp2_with fail
  refine (HOKP.out w4 H1_w4.out).mono ?_
  rintro e w5 ⟨rfl, hb⟩
  have hs_w5 := hb.size
  have HB_w5 := hide (HB_w4.out.trans (hb.mono HB_w4.out.size))
  have H1_w5 := hide (H1_w4.out.trans (hb.mono H1_w4.out.size))
  replace m0 := cellB hb m0
  replace m1 := cellB hb m1
  replace m2 := cellB hb m2
  replace m3 := cellB hb m3
  replace hO4 := hO4.below hb
  replace hO5 := hO5.below hb
  replace hO6 := hO6.below hb
  clear hb
  go_wp2_with fail
  refine (HOKV.out w5 H1_w5.out).mono ?_
  rintro e w' ⟨rfl, rfl⟩
  cases okv
  · have HF := hide (show fwOk D ys = false from by rw [HFO.out]; simp)
    have HY0 : Hid (Y = []) := hide (by rw [← HY.out]; exact (fw_no HF.out).1)
    obtain rfl : n4 = 0 := by rw [← HN4.out, HY0.out]; rfl
    have HB0 := hide (show bwOk D ys zs = false from by rw [bwOk, HF.out]; rfl)
    have HV0 : Hid (V = []) := hide (by rw [← HV.out]; exact (bw_no HB0.out).1)
    have HU0 : Hid (U = []) := hide (by rw [← HU.out]; exact (bw_no HB0.out).2.1)
    obtain rfl : s5 = false := by rw [← HS5.out]; exact (bw_no HB0.out).2.2
    obtain rfl : n5 = 0 := by rw [← HN5.out, HV0.out]; rfl
    obtain rfl : n6 = 0 := by rw [← HN6.out, HU0.out]; rfl
    go_wp2_with fail
    go_ret
    exact ⟨rfl, HB_w5.out⟩
  cases okl
  · have HF := hide (show fwOk D ys = false from by rw [HFO.out]; simp)
    have HY0 : Hid (Y = []) := hide (by rw [← HY.out]; exact (fw_no HF.out).1)
    obtain rfl : n4 = 0 := by rw [← HN4.out, HY0.out]; rfl
    have HB0 := hide (show bwOk D ys zs = false from by rw [bwOk, HF.out]; rfl)
    have HV0 : Hid (V = []) := hide (by rw [← HV.out]; exact (bw_no HB0.out).1)
    have HU0 : Hid (U = []) := hide (by rw [← HU.out]; exact (bw_no HB0.out).2.1)
    obtain rfl : s5 = false := by rw [← HS5.out]; exact (bw_no HB0.out).2.2
    obtain rfl : n5 = 0 := by rw [← HN5.out, HV0.out]; rfl
    obtain rfl : n6 = 0 := by rw [← HN6.out, HU0.out]; rfl
    go_wp2_with fail
    go_ret
    exact ⟨rfl, HB_w5.out⟩
  have HF := hide (show fwOk D ys = true from by rw [HFO.out]; rfl)
  have hfs := fw_spec HF.out
  rw [HY.out] at hfs
  have hDo : D.o = o := by rw [HDD.out]
  have hDi : D.i = i := by rw [HDD.out]
  have hDk : D.k = k := by rw [HDD.out]
  rw [hDo, HN4.out] at hfs
  obtain ⟨hn4o, hokY⟩ := hfs
  have hy1 := (okV_len hokY).1
  rw [HN4.out] at hy1
  have hne4 : ((n4 : Int) != o) = false := by simp [hn4o]
  have hgt4 : (0 : Int) < (n4 : Int) := by omega
  have HOY := hide (fun (W : World) (hW : RI W W.heap.size A4 n4 c4 Y) => (hokY ▸ spec_VecOk W hW (by omega) : Calls Try.prog 62 #[.slice A4 n4 c4] W fun e w' => e = .returned (.bool true) ∧ W = w'))
  obtain ⟨okd, hokd⟩ : ∃ q, okV zs = q := ⟨_, rfl⟩
  obtain ⟨oke, hoke⟩ : ∃ q, decide ((n3 : Int) = o) = q := ⟨_, rfl⟩
  have HOKD := hide (fun (W : World) (hW : Below w1.heap.size w1 W) => (hokd ▸ spec_VecOk W (HD.out W hW) (by omega) : Calls Try.prog 62 #[.slice A3 n3 c3] W fun e w' => e = .returned (.bool okd) ∧ W = w'))
  have hneq3 : ((n3 : Int) != o) = !oke := by rw [← hoke]; by_cases hh : (n3 : Int) = o <;> simp [hh]
  have HBO := hide (show bwOk D ys zs = (okd && oke) from by rw [bwOk, HF.out, hDo, hokd, HLD.out, hoke]; rfl)
  have HN4O := hide hn4o
  have HDI := hide hDi
  have HDO := hide hDo
  have HDK := hide hDk
  have hgd : decide ((0 : Int) < (n4 : Int)) = true := decide_eq_true hgt4
  clear hokd hoke hn4o hokY hDo hDi hDk
  go_wp2_with fail
  refine (HOY.out w5 (hO4.ri.more (by omega))).mono ?_
  rintro e w' ⟨rfl, rfl⟩
  go_wp2_with fail
  refine (HOKD.out w5 H1_w5.out).mono ?_
  rintro e w' ⟨rfl, rfl⟩
  cases okd
  · have HB0 := hide (show bwOk D ys zs = false from by rw [HBO.out]; simp)
    have HV0 : Hid (V = []) := hide (by rw [← HV.out]; exact (bw_no HB0.out).1)
    have HU0 : Hid (U = []) := hide (by rw [← HU.out]; exact (bw_no HB0.out).2.1)
    obtain rfl : s5 = false := by rw [← HS5.out]; exact (bw_no HB0.out).2.2
    obtain rfl : n5 = 0 := by rw [← HN5.out, HV0.out]; rfl
    obtain rfl : n6 = 0 := by rw [← HN6.out, HU0.out]; rfl
    go_wp2_with fail
    go_ret
    exact ⟨rfl, HB_w5.out⟩
  cases oke
  · simp only [Bool.not_false] at hneq3
    have HB0 := hide (show bwOk D ys zs = false from by rw [HBO.out]; simp)
    have HV0 : Hid (V = []) := hide (by rw [← HV.out]; exact (bw_no HB0.out).1)
    have HU0 : Hid (U = []) := hide (by rw [← HU.out]; exact (bw_no HB0.out).2.1)
    obtain rfl : s5 = false := by rw [← HS5.out]; exact (bw_no HB0.out).2.2
    obtain rfl : n5 = 0 := by rw [← HN5.out, HV0.out]; rfl
    obtain rfl : n6 = 0 := by rw [← HN6.out, HU0.out]; rfl
    go_wp2_with fail
    go_ret
    exact ⟨rfl, HB_w5.out⟩
  simp only [Bool.not_true] at hneq3
  have hbs := bw_spec (show bwOk D ys zs = true from by rw [HBO.out]; rfl)
  rw [HV.out, HU.out, HDI.out, HDO.out, HDK.out, HN5.out, HN6.out] at hbs
  obtain ⟨hn5i, hokV5, hsz⟩ := hbs
  have hne5 : ((n5 : Int) != i) = false := by simp [hn5i]
  have HOV5 := hide (fun (W : World) (hW : RI W W.heap.size A5 n5 c5 V) => (hokV5 ▸ spec_VecOk W hW (by omega) : Calls Try.prog 62 #[.slice A5 n5 c5] W fun e w' => e = .returned (.bool true) ∧ W = w'))
  obtain ⟨zz, hzz⟩ : ∃ z, opSize k i o = z := ⟨_, rfl⟩
  have hne6 : ((n6 : Int) != zz) = false := by rw [← hzz]; simp [hsz]
  have HSZ := hide (fun (W : World) => (hzz ▸ impl_OpSize k i o A1 n1 c1 W : Calls Try.prog 63 #[Opv k i o A1 n1 c1] W fun e w' => e = .returned (.int .i64 zz) ∧ Below W.heap.size W w'))
  clear hn5i hokV5 hsz hzz
  go_wp2_with fail
  refine (HSZ.out w5).mono ?_
  rintro e w6 ⟨rfl, hb⟩
  have hs_w6 := hb.size
  have HB_w6 := hide (HB_w5.out.trans (hb.mono HB_w5.out.size))
  have H1_w6 := hide (H1_w5.out.trans (hb.mono H1_w5.out.size))
  replace m0 := cellB hb m0
  replace m1 := cellB hb m1
  replace m2 := cellB hb m2
  replace m3 := cellB hb m3
  replace hO4 := hO4.below hb
  replace hO5 := hO5.below hb
  replace hO6 := hO6.below hb
  clear hb
  go_wp2_with fail
  refine (HOV5.out w6 (hO5.ri.more (by omega))).mono ?_
  rintro e w' ⟨rfl, rfl⟩
  have hmk := fun W' : World => run_make_row' (P := Try.prog) 25 3 _ _ Try.underlying25 int_info rfl .i64 .i64 n3 (by omega) (by omega) W'
  have ma0 := fun o => cellB ((Below.refl _ _).alloc (Nat.le_refl _) o) m0
  have ma1 := fun o => cellB ((Below.refl _ _).alloc (Nat.le_refl _) o) m1
  have ma2 := fun o => cellB ((Below.refl _ _).alloc (Nat.le_refl _) o) m2
  have ma3 := fun o => cellB ((Below.refl _ _).alloc (Nat.le_refl _) o) m3
  go_wp2_with fail
  clear ma0 ma1 ma2 ma3 hmk
  obtain ⟨wz, hwz⟩ : ∃ W, W = w6.alloc (.cells (madeCells #[.int .i64 0] n3) 3) := ⟨_, rfl⟩
  rw [← hwz]
  have hbz : Below w6.heap.size w6 wz := hwz ▸ (Below.refl _ _).alloc (Nat.le_refl _) _
  have hO7 := hwz ▸ OI.made w6 n3 (by omega)
  have hszz : w6.heap.size + 1 = wz.heap.size := by rw [hwz]; simp
  have HB_wz := hide (HB_w6.out.trans (hbz.mono HB_w6.out.size))
  have H1_wz := hide (H1_w6.out.trans (hbz.mono H1_w6.out.size))
  replace m0 := cellB hbz m0
  replace m1 := cellB hbz m1
  replace m2 := cellB hbz m2
  replace m3 := cellB hbz m3
  obtain ⟨Z, hZ⟩ : ∃ q, q = bw D ys (List.replicate n3 0) := ⟨_, rfl⟩
  obtain ⟨G, hG⟩ : ∃ q, q = bwG D ys (List.replicate n3 0) := ⟨_, rfl⟩
  have hz0 := bw_zero (d := D) (xs := ys) n3
  rw [← hZ, ← hG] at hz0
  have HZ := hide hz0.1
  have HG := hide hz0.2.1
  have hS9 := hz0.2.2
  have hZl : Z.length ≤ 6 := by rw [hZ]; exact bw_len ..
  have hGl : G.length ≤ 36 := by rw [hG]; exact bwG_len ..
  have HBK := hide (hZ ▸ hG ▸ hS9 ▸ HDD.out ▸ impl_OpBackward k i o wz (HR.out wz H1_wz.out) (HX.out wz H1_wz.out) (hO7.ri.more (by omega)) H1_wz.out.size H1_wz.out.size (Nat.le_refl _) hn1 (by omega) (by omega) : Calls Try.prog 38 #[Opv k i o A1 n1 c1, .slice A2 n2 c2, .slice (some ⟨w6.heap.size, 0, none⟩) n3 n3] wz (Back2 false wz Z G))
  have hcst : (0 : Int) ≤ opCost k i o xs := opCost_nn k i o xs
  obtain ⟨zc, hzc⟩ : ∃ z, opCost k i o xs = z := ⟨_, rfl⟩
  rw [hzc] at hcst
  have HCST := hide (fun (W : World) (hW : Below w1.heap.size w1 W) => (hzc ▸ impl_OpCost k i o W (HR.out W hW) hW.size hn1 : Calls Try.prog 64 #[Opv k i o A1 n1 c1] W fun e w' => e = .returned (.int .i64 zc) ∧ Below W.heap.size W w'))
  clear hZ hG hz0 hS9 hO7 hszz hzc hwz hbz hne5 hne6 hne4 hgt4 hgd heql hneq3
  refine HBK.out.mono ?_
  rintro e w7 ⟨v, u, mid, rfl, hm1, hm2, hO8, hO9, hb⟩
  obtain ⟨A8, n8, c8, rfl, _⟩ := hO8.rv
  obtain ⟨A9, n9, c9, rfl, _⟩ := hO9.rv
  clear HBK
  have hs_w7 := hb.size
  have HB_w7 := hide (HB_wz.out.trans (hb.mono HB_wz.out.size))
  have H1_w7 := hide (H1_wz.out.trans (hb.mono H1_wz.out.size))
  replace m0 := cellB hb m0
  replace m1 := cellB hb m1
  replace m2 := cellB hb m2
  replace m3 := cellB hb m3
  clear hb
  have hRZ := hO8.ri
  have hRG := hO9.ri
  have hnZ : Z.length = n8 := hRZ.1
  have hnG : G.length = n9 := hRG.1
  have hn8 : n8 ≤ 6 := by omega
  have hn9 : n9 ≤ 36 := by omega
  clear hO8 hO9
  go_wp2_with fail
  go_loop [16] (fun v => ∃ q : Nat, q ≤ n8 ∧ v = .int .i64 (q : Int)) (fun v => n8 - (intOf v).toNat)
  case atStart => exact ⟨0, Nat.zero_le _, rfl⟩
  case round =>
    obtain ⟨q, hq, rfl⟩ := hrel
    by_cases hlt : q < n8
    · obtain ⟨b, off, rfl, hbB, hc⟩ := hRZ.at_ hlt
      have hzq : Z.getD q 0 = 0 := by
        have hm : Z.getD q 0 ∈ Z := by
          rw [List.getD, List.getElem?_eq_getElem (by omega)]
          exact List.getElem_mem _
        exact HZ.out _ hm
      rw [hzq] at hc
      clear hzq hRZ
      go_wp2_with fail
      go_round
      case rel => exact ⟨q + 1, by omega, by go_num⟩
      case measure => simp [intOf]; omega
    · obtain rfl : q = n8 := by omega
      clear hRZ
      go_wp2_with fail
      go_loop [17] (fun v => ∃ q : Nat, q ≤ n9 ∧ v = .int .i64 (q : Int)) (fun v => n9 - (intOf v).toNat)
      case atStart => exact ⟨0, Nat.zero_le _, rfl⟩
      case round =>
        obtain ⟨q, hq, rfl⟩ := hrel
        by_cases hlt : q < n9
        · obtain ⟨b, off, rfl, hbB, hc⟩ := hRG.at_ hlt
          have hzq : G.getD q 0 = 0 := by
            have hm : G.getD q 0 ∈ G := by
              rw [List.getD, List.getElem?_eq_getElem (by omega)]
              exact List.getElem_mem _
            exact HG.out _ hm
          rw [hzq] at hc
          clear hzq hRG
          go_wp2_with fail
          go_round
          case rel => exact ⟨q + 1, by omega, by go_num⟩
          case measure => simp [intOf]; omega
        · obtain rfl : q = n9 := by omega
          clear hRG
          go_wp2_with fail
          refine (HCST.out w7 H1_w7.out).mono ?_
          rintro e wf ⟨rfl, hb⟩
          have hge : decide (zc ≥ 0) = true := decide_eq_true hcst
          have HBF := hide (HB_w7.out.trans (hb.mono HB_w7.out.size))
          clear hb
          go_wp2_with fail
          go_ret
          exact ⟨rfl, HBF.out⟩
set_option maxRecDepth 100000 in
theorem lifted (os : Os) (started : os.Started) (H : Type) (enc : TypeId × Value → H) :
    ReturnsInHanded {} Try.checked os 12 .any (Rows.fnOpsSpec.pre6 enc Try.prog Try.f12 Rows.fnOpsRow.domain false) (Rows.fnOpsSpec.post enc Try.prog Try.f12 false true false false) := by
  refine law_lifted (C := Try.checked) (f := 12) (fn := Try.f12) (tb := 4) os (by kernel_rfl) started (by kernel_rfl) Try.func12 (by kernel_rfl) (by kernel_rfl) rfl Try.underlying4 rfl (fun H ds h => ?_) H enc
    (ChangeSpec.witness6 (enc := enc) (C := Try.checked) false ⟨#[], #[.slice none 0 0], []⟩ 8 (by kernel_rfl) (by kernel_rfl) (by kernel_rfl) (by kernel_rfl)) ?_
  · rw [show Try.f12.params.size = 1 from by kernel_rfl] at h
    match ds, h with
    | [d0], _ => rfl
  intro W base args ds ps hval hA hlt
  have hval : ∀ (j : Nat) t v, Try.f12.params[j]? = some t → args[j]? = some v → Value.okWide Try.prog W .any base t v := hval
  have hA : DataW.TrodAll enc Try.prog W 0 (fun _ => true) true Try.f12.params.toList args.toList ds ps := hA
  rw [Try.params12] at hA hval
  obtain ⟨v0, vs0, d0, ds0, p0, q0, hargs, rfl, rfl, h0, r0⟩ := trodAll_cons hA
  obtain ⟨rfl, rfl, rfl⟩ := trodAll_nil r0
  obtain rfl : args = #[v0] := by cases args; simp_all
  obtain ⟨A0, n0, c0, rfl, hC0⟩ := openB Try.underlying84 Try.underlying5 cells_u8 (hval 0 84 v0 rfl rfl) h0 (fun x hx => hlt x (by simp [hx]))
  exact walk W hC0
theorem proved : Rows.FnOpsSaid :=
  OpenClaim.holds_of_wide 12 Try.f12 rfl rfl rfl rfl rfl rfl rfl ⟨rfl, rfl, rfl, rfl, rfl⟩ rfl rfl rfl rfl rfl (by kernel_rfl) Try.func12 (by kernel_rfl)
    (of_decide_eq_true (by kernel_rfl)) (by unfold Func.isWrapper; first | (rw [if_pos (by decide +kernel)]; kernel_rfl) | (rw [if_neg (by decide +kernel)]; exact ⟨rfl, rfl⟩))
    (fun os started H enc _ => lifted os started H enc)
#print axioms proved
end Go.Proofs.Ytehfglfbnjdcoaa.fnOps
