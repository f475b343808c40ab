/-
  The contracts of Outer.
-/
import Derived.Test.YtehfglfbnjdcoaaProg
import Derived.Test.YtehfglfbnjdcoaaFix
import Derived.Test.YtehfglfbnjdcoaaStru
import Derived.Test.YtehfglfbnjdcoaaJPlain
import Derived.Test.YtehfglfbnjdcoaaRec
import Derived.Test.YtehfglfbnjdcoaaVec2
import Derived.WalkKit
import Derived.BigQuiet
import Derived.Lib.QuietBelow
namespace Go.Proofs.Ytehfglfbnjdcoaa
open Go.RowKit Go.Sort
set_option maxRecDepth 100000

theorem results_cell_row2 {P : Program} {fn : Func} {p u : Tmp} {ty : TypeId} (h : fn.results = #[.cell p ty, .tmp u]) (tmps : Array Value) (w : World) (g : Nat) (t : TypeId) (cs : Array Value) (fr : Nat × Nat) (d : TypeDesc)
    (hp : tmps.getD p undef = .pointer (some ⟨g, 0, none⟩)) (hg : w.heap[g]? = some (.cells cs t fr))
    (hu : P.underlying ty = some d) (hd : (match d with | .struct _ | .array _ _ => true | _ => false) = true) (hi : (P.info? ty).map (·.size) = some cs.size) :
    (results fn tmps).run P w = .ok (.tuple #[.agg cs, tmps.getD u undef]) w := by
  have hp' : tmps[p]?.getD undef = .pointer (some ⟨g, 0, none⟩) := by simpa using hp
  simp [results, h, hp', asAddr, run_loadVar_row w g t ty cs fr d hg hu hd hi]
set_option maxHeartbeats 4000000 in
theorem impl_Outer {B n c B' n' c' : Nat} {A A' : Option Addr} {ds xs : List Int} (w : World) (h : RI w B A n c ds) (h' : RI w B' A' n' c' xs) (hB : B ≤ w.heap.size) (hB' : B' ≤ w.heap.size) (hn : n ≤ 1048576) (hn' : n' ≤ 1048576) :
    Calls Try.prog 102 #[.slice A n c, .slice A' n' c'] w fun e w' => ∃ A1 n1 c1, e = .returned (.tuple #[Matv (mOutR ds xs) (mOutC ds xs) A1 n1 c1, .bool (mOutS ds xs)]) ∧ OwI w' w.heap.size w'.heap.size (.slice A1 n1 c1) (mOut ds xs) ∧ Below w.heap.size w w' := by
  have hl := hide h.1
  have hl' := hide h'.1
  have HV := hide (fun (W : World) (hW : Below w.heap.size w W) => impl_VecOk W (h.below (hW.mono hB)) hn)
  have HV' := hide (fun (W : World) (hW : Below w.heap.size w W) => impl_VecOk W (h'.below (hW.mono hB')) hn')
  obtain ⟨w1, hw1⟩ : ∃ w1, w1 = w.alloc (.cells #[.int .i64 0, .int .i64 0, .slice none 0 0] 113) := ⟨_, rfl⟩
  have hb1 : Below w.heap.size w w1 := hw1 ▸ (Below.refl _ _).alloc (Nat.le_refl _) _
  have s1 : w1.heap.size = w.heap.size + 1 := by rw [hw1]; simp
  have p1 : w1.heap[w.heap.size]? = some (.cells #[.int .i64 0, .int .i64 0, .slice none 0 0] 113 (0, 0)) := by rw [hw1]; exact heap_alloc_new _ _
  have q0 := blk_cell p1 0
  have q1 := blk_cell p1 1
  have q2 := blk_cell p1 2
  have f0 := blk_free p1 0
  have f1 := blk_free p1 1
  have f2 := blk_free p1 2
  simp at q0 q1 q2
  have HW := hide hw1
  have P1 := hide p1
  have HB1 := hide hb1
  clear hw1 p1
  by_cases hok : outOk ds xs = true
  case neg =>
    have hok' : outOk ds xs = false := by simpa using hok
    have HF := hide hok'
    have hcase : okV ds = false ∨ (okV ds = true ∧ okV xs = false) := by
      rw [outOk] at hok'
      cases h1 : okV ds
      · exact .inl rfl
      · rw [h1, Bool.true_and] at hok'; exact .inr ⟨rfl, hok'⟩
    clear hok hok' h h' hn hn'
    rcases hcase with hv | ⟨hv, hv'⟩
    · go_enter Try.func102, Try.ntmps102
      go_wp2_with fail
      rw [← HW.out]
      refine (HV.out w1 hb1).mono ?_
      rw [hv]
      rintro e w' ⟨rfl, rfl⟩
      go_wp2_with fail
      refine bodyPost_ret (results_cell_row2 (P := Try.prog) (d := _) rfl _ _ w.heap.size 113 #[.int .i64 0, .int .i64 0, .slice none 0 0] (0, 0) rfl ?_ Try.underlying113 rfl rfl) rfl ?_
      · exact blk_set (blk_set (blk_set P1.out 0 _) 1 _) 2 _
      · refine ⟨none, 0, 0, by rw [mOutR, mOutC, mOutS, HF.out]; rfl, by rw [mOut, HF.out]; exact OI.nil _ _ _ _, ?_⟩
        exact below_set (below_set (below_set HB1.out _ _ (Nat.le_refl _) _) _ _ (Nat.le_refl _) _) _ _ (Nat.le_refl _) _
    · go_enter Try.func102, Try.ntmps102
      go_wp2_with fail
      rw [← HW.out]
      refine (HV.out w1 hb1).mono ?_
      rw [hv]
      rintro e w' ⟨rfl, rfl⟩
      go_wp2_with fail
      refine (HV'.out _ HB1.out).mono ?_
      rw [hv']
      rintro e w' ⟨rfl, rfl⟩
      go_wp2_with fail
      refine bodyPost_ret (results_cell_row2 (P := Try.prog) (d := _) rfl _ _ w.heap.size 113 #[.int .i64 0, .int .i64 0, .slice none 0 0] (0, 0) rfl ?_ Try.underlying113 rfl rfl) rfl ?_
      · exact blk_set (blk_set (blk_set P1.out 0 _) 1 _) 2 _
      · refine ⟨none, 0, 0, by rw [mOutR, mOutC, mOutS, HF.out]; rfl, by rw [mOut, HF.out]; exact OI.nil _ _ _ _, ?_⟩
        exact below_set (below_set (below_set HB1.out _ _ (Nat.le_refl _) _) _ _ (Nat.le_refl _) _) _ _ (Nat.le_refl _) _
  have hv : okV ds = true ∧ okV xs = true := by rw [outOk, Bool.and_eq_true] at hok; exact hok
  have hR := okV_len hv.1
  have hC := okV_len hv.2
  rw [h.1] at hR
  rw [h'.1] at hC
  obtain ⟨zs, hz⟩ : ∃ zs, zs = outL ds xs := ⟨_, rfl⟩
  obtain ⟨gs, hg⟩ : ∃ gs, gs = outSL ds xs := ⟨_, rfl⟩
  have HZ := hide hz
  have HG := hide hg
  have hzl : zs.length = n * n' := by rw [hz, outL_len, h.1, h'.1]
  have hgl : gs.length = n * n' := by rw [hg, outSL_len, h.1, h'.1]
  have HZL := hide hzl
  have HGL := hide hgl
  have HOK := hide hok
  obtain ⟨hv1, hv2⟩ := hv
  clear hok hz hg hzl hgl hn hn'
  go_enter Try.func102, Try.ntmps102
  go_wp2_with fail
  rw [← HW.out]
  refine (HV.out w1 hb1).mono ?_
  rw [hv1]
  rintro e w' ⟨rfl, rfl⟩
  go_wp2_with fail
  refine (HV'.out _ HB1.out).mono ?_
  rw [hv2]
  rintro e w' ⟨rfl, rfl⟩
  go_wp2_with fail
  obtain ⟨w2, hw2⟩ : ∃ w2, w2 = w1.alloc (.cells #[.int .i64 (n : Int), .int .i64 (n' : Int), .slice none 0 0] 113) := ⟨_, rfl⟩
  have hb2 : Below w.heap.size w w2 := hw2 ▸ HB1.out.alloc (by omega) _
  have s2 : w2.heap.size = w.heap.size + 2 := by rw [hw2]; simp [s1]
  have p2 : w2.heap[w.heap.size + 1]? = some (.cells #[.int .i64 (n : Int), .int .i64 (n' : Int), .slice none 0 0] 113 (0, 0)) := by rw [hw2, ← s1]; exact heap_alloc_new _ _
  have p1 : w2.heap[w.heap.size]? = some (.cells #[.int .i64 0, .int .i64 0, .slice none 0 0] 113 (0, 0)) := by rw [hw2, Below.heap_alloc _ _ _ (by omega)]; exact P1.out
  try rw [s1]
  rw [← hw2]
  clear hw2 q0 q1 q2 f0 f1 f2 hb1
  go_loopw [7, 30] (fun fl i wr => ∃ k : Nat, k ≤ n ∧ i = .int .i64 (k : Int) ∧ (∃ p0, Hid (p0 = k * n') ∧ fl = .bool ((gs.take p0).any id) ∧ ∃ v, wr.heap[w.heap.size + 1]? = some (.cells #[.int .i64 (n : Int), .int .i64 (n' : Int), v] 113 (0, 0)) ∧ wr.ownsRow (w.heap.size + 2) 3 1 v p0 (ivs (zs.take p0))) ∧ wr.heap[w.heap.size]? = some (.cells #[.int .i64 0, .int .i64 0, .slice none 0 0] 113 (0, 0)) ∧ Below w.heap.size w wr ∧ w.heap.size + 2 ≤ wr.heap.size)
    (fun _ i _ => n - (intOf i).toNat)
  case atStart => exact ⟨0, Nat.zero_le _, rfl, ⟨0, by simp [Hid], rfl, _, p2, World.ownsRow_nil _ _ _ _⟩, p1, hb2, by omega⟩
  case round =>
    clear p1 p2 hb2
    obtain ⟨k, hk, rfl, ⟨p0, hp0, rfl, v0, pb, hown⟩, pa, hb, hsz⟩ := hrel
    by_cases hlt : k < n
    · obtain ⟨b, off, rfl, hbB, hc⟩ := h.at_ hlt
      obtain ⟨x, hx⟩ : ∃ x, x = ds.getD k 0 := ⟨_, rfl⟩
      rw [← hx] at hc
      have HX := hide hx
      have hbw : b < w.heap.size := by omega
      have hpb : p0 + n' ≤ 36 := by
        have h1 : (k + 1) * n' ≤ n * n' := Nat.mul_le_mul_right n' hlt
        have h2 : n * n' ≤ 6 * 6 := Nat.mul_le_mul hR.2 hC.2
        rw [Nat.succ_mul] at h1
        have := hp0.out
        omega
      have hcx : wr.cell? ⟨b, off + k, none⟩ = some (.int .i64 x) := (hb.cell (p := ⟨b, off + k, none⟩) hbw).trans hc
      have hk1 : (0 : Int) ≤ (k : Int) := by omega
      have hk2 : (k : Int) < (n : Int) := by omega
      clear hx h
      go_wp2_with fail
      go_loopw [7, 36] (fun fl i ws => ∃ j : Nat, j ≤ n' ∧ i = .int .i64 (j : Int) ∧ fl = .bool ((gs.take (p0 + j)).any id) ∧ (∃ v, ws.heap[w.heap.size + 1]? = some (.cells #[.int .i64 (n : Int), .int .i64 (n' : Int), v] 113 (0, 0)) ∧ ws.ownsRow (w.heap.size + 2) 3 1 v (p0 + j) (ivs (zs.take (p0 + j)))) ∧ ws.heap[w.heap.size]? = some (.cells #[.int .i64 0, .int .i64 0, .slice none 0 0] 113 (0, 0)) ∧ Below w.heap.size w ws ∧ w.heap.size + 2 ≤ ws.heap.size)
        (fun _ i _ => n' - (intOf i).toNat)
      case atStart => exact ⟨0, Nat.zero_le _, rfl, rfl, ⟨v0, pb, hown⟩, pa, hb, hsz⟩
      case round =>
        clear pb hown pa hsz
        obtain ⟨j, hj, rfl, rfl, ⟨v1, pb, hown⟩, pa, hb, hsz⟩ := hrel
        by_cases hlt' : j < n'
        · obtain ⟨b', off', rfl, hbB', hc'⟩ := h'.at_ hlt'
          obtain ⟨y, hy⟩ : ∃ y, y = xs.getD j 0 := ⟨_, rfl⟩
          rw [← hy] at hc'
          have HY := hide hy
          have hbw' : b' < w.heap.size := by omega
          have hcx2 : wr.cell? ⟨b, off + k, none⟩ = some (.int .i64 x) := (hb.cell (p := ⟨b, off + k, none⟩) hbw).trans hc
          have hcy : wr.cell? ⟨b', off' + j, none⟩ = some (.int .i64 y) := (hb.cell (p := ⟨b', off' + j, none⟩) hbw').trans hc'
          obtain ⟨fb, hfb⟩ : ∃ fb, fb = (gs.take (p0 + j)).any id := ⟨_, rfl⟩
          rw [← hfb]
          have hidx : p0 + j = k * xs.length + j := by rw [hl'.out]; have := hp0.out; omega
          have HS := hide (show (gs.take (p0 + (j + 1))).any id = (fb || fxMulS x y) from by
            rw [← Nat.add_assoc, take_snocG (zs := gs) (p := p0 + j) (z := fxMulS x y) (by rw [HG.out, hidx, outSL_get (by rw [hl.out]; exact hlt) (by rw [hl'.out]; exact hlt'), HX.out, hy]), hfb]; simp)
          have HVV := hide (show ivs (zs.take (p0 + (j + 1))) = ivs (zs.take (p0 + j)) ++ [iv (fxMul x y)] from by
            rw [← Nat.add_assoc, take_snocG (zs := zs) (p := p0 + j) (z := fxMul x y) (by rw [HZ.out, hidx, outL_get (by rw [hl.out]; exact hlt) (by rw [hl'.out]; exact hlt'), HX.out, hy])]; simp [ivs])
          have hj1 : (0 : Int) ≤ (j : Int) := by omega
          have hj2 : (j : Int) < (n' : Int) := by omega
          clear hy hfb hidx hc' h'
          have pb2 := pb
          have pa2 := pa
          have hown2 := hown
          have hsz2 := hsz
          have hbb := hb
          have hpb2 := pb2
          have t2 := blk_cell pb2 2
          have g2 := blk_free pb2 2
          simp at t2
          cases fb
          all_goals
            go_wp2_with (first | (go_at_call 140; refine (impl_FixMul _ _ _).mono ?_; rintro e w' ⟨rfl, rfl⟩) | (at_builtin; refine wpList_push1 wr (iv (fxMul x y)) rfl (.tmp 47) (.tmp 49) _ rfl (w.heap.size + 2) 3 _ 8 Try.underlying25 int_info rfl v1 _ _ rfl hown2 rfl rfl (by omega) (by omega) hsz2 ?_; intro v' w3 hown' hgr _; obtain ⟨A9, c9, hv9⟩ := ownsRow_form hown'; rw [hv9]; rw [hv9] at hown'; have hne : ∀ q, v1.ownBlock = some q → w.heap.size + 2 ≤ q := fun q hq => (hown2.lt q hq).1; have pb3 := (hgr.block (w.heap.size + 1) (by omega) (fun hc => by have := hne _ hc.symm; omega)).trans hpb2; have pa3 := (hgr.block w.heap.size (by omega) (fun hc => by have := hne _ hc.symm; omega)).trans pa2; have t3 := blk_cell pb3 2; have g3 := blk_free pb3 2; simp at t3))
            go_roundw
            case rel => exact ⟨j + 1, by omega, by go_num, by rw [HS.out]; rfl, ⟨_, blk_set pb3 2 _, ownsRow_setCell_below (by rw [HVV.out]; exact hown') (show w.heap.size + 1 < w.heap.size + 2 by omega) _⟩, blk_far pa3 (by omega) _, below_set (hbb.grown hgr (by omega) (fun q hq => by have := hne q hq; omega)) _ _ (by omega) _, by have := hgr.size; simp [World.setCell]; omega⟩
            case measure => simp [intOf]; omega
        · obtain rfl : n' = j := by omega
          have HP := hide (show p0 + n' = (k + 1) * n' from by rw [Nat.succ_mul, hp0.out])
          clear h'
          go_wp2_with fail
          go_roundw
          case rel => exact ⟨k + 1, by omega, by go_num, ⟨p0 + n', HP.out, rfl, v1, pb, hown⟩, pa, hb, hsz⟩
          case measure => simp [intOf]; omega
    · obtain rfl : k = n := by omega
      have e0 : p0 = k * n' := hp0.out
      have e1 : zs.take p0 = zs := List.take_of_length_le (by rw [HZL.out, e0]; exact Nat.le_refl _)
      have e2 : gs.take p0 = gs := List.take_of_length_le (by rw [HGL.out, e0]; exact Nat.le_refl _)
      rw [e1] at hown
      rw [e2]
      have hzl : zs.length = p0 := by rw [HZL.out, e0]
      have HOWN := hide hown
      obtain ⟨A9, c9, hv9⟩ := ownsRow_form hown
      rw [hv9] at pb HOWN
      have t0 := blk_cell pb 0
      have t1 := blk_cell pb 1
      have t2 := blk_cell pb 2
      have a0 := blk_cell pa 0
      have a1 := blk_cell pa 1
      have a2 := blk_cell pa 2
      have b0 := blk_free pa 0
      have b1 := blk_free pa 1
      have b2 := blk_free pa 2
      simp at t0 t1 t2 a0 a1 a2
      have PA := hide pa
      have HB := hide hb
      have E := hide (And.intro (show mOutR ds xs = (k : Int) from by rw [mOutR, if_pos HOK.out, hl.out]) (And.intro (show mOutC ds xs = (n' : Int) from by rw [mOutC, if_pos HOK.out, hl'.out]) (And.intro (show mOutS ds xs = gs.any id from by rw [mOutS, HOK.out, HG.out]; rfl) (show mOut ds xs = zs from by rw [mOut, if_pos HOK.out, HZ.out]))))
      clear h h' e1 e2 hown pa hb e0
      go_wp2_with fail
      refine bodyPost_ret (results_cell_row2 (P := Try.prog) (d := _) rfl _ _ w.heap.size 113 #[.int .i64 (k : Int), .int .i64 (n' : Int), .slice A9 p0 c9] (0, 0) rfl ?_ Try.underlying113 rfl rfl) rfl ?_
      · exact blk_set (blk_set (blk_set PA.out 0 _) 1 _) 2 _
      · obtain ⟨E1, E2, E3, E4⟩ := E.out
        refine ⟨A9, p0, c9, by rw [E1, E2, E3]; rfl, ?_, below_set (below_set (below_set HB.out _ _ (Nat.le_refl _) _) _ _ (Nat.le_refl _) _) _ _ (Nat.le_refl _) _⟩
        rw [E4]
        exact (OI.of_own (ownsLo (ownsRow_setCell_below (ownsRow_setCell_below (ownsRow_setCell_below HOWN.out (show w.heap.size < w.heap.size + 2 by omega) _) (show w.heap.size < w.heap.size + 2 by omega) _) (show w.heap.size < w.heap.size + 2 by omega) _) (show w.heap.size ≤ w.heap.size + 2 by omega)))
set_option maxHeartbeats 4000000 in
theorem spec_Outer {B n c B' n' c' : Nat} {A A' : Option Addr} {ds xs : List Int} (w : World) (h : RI w B A n c ds) (h' : RI w B' A' n' c' xs) (hB : B ≤ w.heap.size) (hB' : B' ≤ w.heap.size) (hn : n ≤ 1048576) (hn' : n' ≤ 1048576) :
    Calls Try.prog 100 #[.slice A n c, .slice A' n' c'] w fun e w' => ∃ A1 n1 c1, e = .returned (.tuple #[Matv (mOutR ds xs) (mOutC ds xs) A1 n1 c1, .bool (mOutS ds xs)]) ∧ OwI w' w.heap.size w'.heap.size (.slice A1 n1 c1) (mOut ds xs) ∧ Below w.heap.size w w' := by
  have hl := hide h.1
  have hl' := hide h'.1
  have HV := hide (fun (W : World) (hW : Below w.heap.size w W) => spec_VecOk W (h.below (hW.mono hB)) hn)
  have HV' := hide (fun (W : World) (hW : Below w.heap.size w W) => spec_VecOk W (h'.below (hW.mono hB')) hn')
  obtain ⟨w1, hw1⟩ : ∃ w1, w1 = w.alloc (.cells #[.int .i64 0, .int .i64 0, .slice none 0 0] 113) := ⟨_, rfl⟩
  have hb1 : Below w.heap.size w w1 := hw1 ▸ (Below.refl _ _).alloc (Nat.le_refl _) _
  have s1 : w1.heap.size = w.heap.size + 1 := by rw [hw1]; simp
  have p1 : w1.heap[w.heap.size]? = some (.cells #[.int .i64 0, .int .i64 0, .slice none 0 0] 113 (0, 0)) := by rw [hw1]; exact heap_alloc_new _ _
  have q0 := blk_cell p1 0
  have q1 := blk_cell p1 1
  have q2 := blk_cell p1 2
  have f0 := blk_free p1 0
  have f1 := blk_free p1 1
  have f2 := blk_free p1 2
  simp at q0 q1 q2
  have HW := hide hw1
  have P1 := hide p1
  have HB1 := hide hb1
  clear hw1 p1
  by_cases hok : outOk ds xs = true
  case neg =>
    have hok' : outOk ds xs = false := by simpa using hok
    have HF := hide hok'
    have hcase : okV ds = false ∨ (okV ds = true ∧ okV xs = false) := by
      rw [outOk] at hok'
      cases h1 : okV ds
      · exact .inl rfl
      · rw [h1, Bool.true_and] at hok'; exact .inr ⟨rfl, hok'⟩
    clear hok hok' h h' hn hn'
    rcases hcase with hv | ⟨hv, hv'⟩
    · go_enter Try.func100, Try.ntmps100
      go_wp2_with fail
      rw [← HW.out]
      refine (HV.out w1 hb1).mono ?_
      rw [hv]
      rintro e w' ⟨rfl, rfl⟩
      go_wp2_with fail
      refine bodyPost_ret (results_cell_row2 (P := Try.prog) (d := _) rfl _ _ w.heap.size 113 #[.int .i64 0, .int .i64 0, .slice none 0 0] (0, 0) rfl ?_ Try.underlying113 rfl rfl) rfl ?_
      · exact blk_set (blk_set (blk_set P1.out 0 _) 1 _) 2 _
      · refine ⟨none, 0, 0, by rw [mOutR, mOutC, mOutS, HF.out]; rfl, by rw [mOut, HF.out]; exact OI.nil _ _ _ _, ?_⟩
        exact below_set (below_set (below_set HB1.out _ _ (Nat.le_refl _) _) _ _ (Nat.le_refl _) _) _ _ (Nat.le_refl _) _
    · go_enter Try.func100, Try.ntmps100
      go_wp2_with fail
      rw [← HW.out]
      refine (HV.out w1 hb1).mono ?_
      rw [hv]
      rintro e w' ⟨rfl, rfl⟩
      go_wp2_with fail
      refine (HV'.out _ HB1.out).mono ?_
      rw [hv']
      rintro e w' ⟨rfl, rfl⟩
      go_wp2_with fail
      refine bodyPost_ret (results_cell_row2 (P := Try.prog) (d := _) rfl _ _ w.heap.size 113 #[.int .i64 0, .int .i64 0, .slice none 0 0] (0, 0) rfl ?_ Try.underlying113 rfl rfl) rfl ?_
      · exact blk_set (blk_set (blk_set P1.out 0 _) 1 _) 2 _
      · refine ⟨none, 0, 0, by rw [mOutR, mOutC, mOutS, HF.out]; rfl, by rw [mOut, HF.out]; exact OI.nil _ _ _ _, ?_⟩
        exact below_set (below_set (below_set HB1.out _ _ (Nat.le_refl _) _) _ _ (Nat.le_refl _) _) _ _ (Nat.le_refl _) _
  have hv : okV ds = true ∧ okV xs = true := by rw [outOk, Bool.and_eq_true] at hok; exact hok
  have hR := okV_len hv.1
  have hC := okV_len hv.2
  rw [h.1] at hR
  rw [h'.1] at hC
  obtain ⟨zs, hz⟩ : ∃ zs, zs = outL ds xs := ⟨_, rfl⟩
  obtain ⟨gs, hg⟩ : ∃ gs, gs = outSL ds xs := ⟨_, rfl⟩
  have HZ := hide hz
  have HG := hide hg
  have hzl : zs.length = n * n' := by rw [hz, outL_len, h.1, h'.1]
  have hgl : gs.length = n * n' := by rw [hg, outSL_len, h.1, h'.1]
  have HZL := hide hzl
  have HGL := hide hgl
  have HOK := hide hok
  obtain ⟨hv1, hv2⟩ := hv
  clear hok hz hg hzl hgl hn hn'
  go_enter Try.func100, Try.ntmps100
  go_wp2_with fail
  rw [← HW.out]
  refine (HV.out w1 hb1).mono ?_
  rw [hv1]
  rintro e w' ⟨rfl, rfl⟩
  go_wp2_with fail
  refine (HV'.out _ HB1.out).mono ?_
  rw [hv2]
  rintro e w' ⟨rfl, rfl⟩
  go_wp2_with fail
  obtain ⟨w2, hw2⟩ : ∃ w2, w2 = w1.alloc (.cells #[.int .i64 (n : Int), .int .i64 (n' : Int), .slice none 0 0] 113) := ⟨_, rfl⟩
  have hb2 : Below w.heap.size w w2 := hw2 ▸ HB1.out.alloc (by omega) _
  have s2 : w2.heap.size = w.heap.size + 2 := by rw [hw2]; simp [s1]
  have p2 : w2.heap[w.heap.size + 1]? = some (.cells #[.int .i64 (n : Int), .int .i64 (n' : Int), .slice none 0 0] 113 (0, 0)) := by rw [hw2, ← s1]; exact heap_alloc_new _ _
  have p1 : w2.heap[w.heap.size]? = some (.cells #[.int .i64 0, .int .i64 0, .slice none 0 0] 113 (0, 0)) := by rw [hw2, Below.heap_alloc _ _ _ (by omega)]; exact P1.out
  try rw [s1]
  rw [← hw2]
  clear hw2 q0 q1 q2 f0 f1 f2 hb1
  go_loopw [7, 8] (fun fl i wr => ∃ k : Nat, k ≤ n ∧ i = .int .i64 (k : Int) ∧ (∃ p0, Hid (p0 = k * n') ∧ fl = .bool ((gs.take p0).any id) ∧ ∃ v, wr.heap[w.heap.size + 1]? = some (.cells #[.int .i64 (n : Int), .int .i64 (n' : Int), v] 113 (0, 0)) ∧ wr.ownsRow (w.heap.size + 2) 3 1 v p0 (ivs (zs.take p0))) ∧ wr.heap[w.heap.size]? = some (.cells #[.int .i64 0, .int .i64 0, .slice none 0 0] 113 (0, 0)) ∧ Below w.heap.size w wr ∧ w.heap.size + 2 ≤ wr.heap.size)
    (fun _ i _ => n - (intOf i).toNat)
  case atStart => exact ⟨0, Nat.zero_le _, rfl, ⟨0, by simp [Hid], rfl, _, p2, World.ownsRow_nil _ _ _ _⟩, p1, hb2, by omega⟩
  case round =>
    clear p1 p2 hb2
    obtain ⟨k, hk, rfl, ⟨p0, hp0, rfl, v0, pb, hown⟩, pa, hb, hsz⟩ := hrel
    by_cases hlt : k < n
    · obtain ⟨b, off, rfl, hbB, hc⟩ := h.at_ hlt
      obtain ⟨x, hx⟩ : ∃ x, x = ds.getD k 0 := ⟨_, rfl⟩
      rw [← hx] at hc
      have HX := hide hx
      have hbw : b < w.heap.size := by omega
      have hpb : p0 + n' ≤ 36 := by
        have h1 : (k + 1) * n' ≤ n * n' := Nat.mul_le_mul_right n' hlt
        have h2 : n * n' ≤ 6 * 6 := Nat.mul_le_mul hR.2 hC.2
        rw [Nat.succ_mul] at h1
        have := hp0.out
        omega
      have hcx : wr.cell? ⟨b, off + k, none⟩ = some (.int .i64 x) := (hb.cell (p := ⟨b, off + k, none⟩) hbw).trans hc
      have hk1 : (0 : Int) ≤ (k : Int) := by omega
      have hk2 : (k : Int) < (n : Int) := by omega
      clear hx h
      go_wp2_with fail
      go_loopw [7, 9] (fun fl i ws => ∃ j : Nat, j ≤ n' ∧ i = .int .i64 (j : Int) ∧ fl = .bool ((gs.take (p0 + j)).any id) ∧ (∃ v, ws.heap[w.heap.size + 1]? = some (.cells #[.int .i64 (n : Int), .int .i64 (n' : Int), v] 113 (0, 0)) ∧ ws.ownsRow (w.heap.size + 2) 3 1 v (p0 + j) (ivs (zs.take (p0 + j)))) ∧ ws.heap[w.heap.size]? = some (.cells #[.int .i64 0, .int .i64 0, .slice none 0 0] 113 (0, 0)) ∧ Below w.heap.size w ws ∧ w.heap.size + 2 ≤ ws.heap.size)
        (fun _ i _ => n' - (intOf i).toNat)
      case atStart => exact ⟨0, Nat.zero_le _, rfl, rfl, ⟨v0, pb, hown⟩, pa, hb, hsz⟩
      case round =>
        clear pb hown pa hsz
        obtain ⟨j, hj, rfl, rfl, ⟨v1, pb, hown⟩, pa, hb, hsz⟩ := hrel
        by_cases hlt' : j < n'
        · obtain ⟨b', off', rfl, hbB', hc'⟩ := h'.at_ hlt'
          obtain ⟨y, hy⟩ : ∃ y, y = xs.getD j 0 := ⟨_, rfl⟩
          rw [← hy] at hc'
          have HY := hide hy
          have hbw' : b' < w.heap.size := by omega
          have hcx2 : wr.cell? ⟨b, off + k, none⟩ = some (.int .i64 x) := (hb.cell (p := ⟨b, off + k, none⟩) hbw).trans hc
          have hcy : wr.cell? ⟨b', off' + j, none⟩ = some (.int .i64 y) := (hb.cell (p := ⟨b', off' + j, none⟩) hbw').trans hc'
          obtain ⟨fb, hfb⟩ : ∃ fb, fb = (gs.take (p0 + j)).any id := ⟨_, rfl⟩
          rw [← hfb]
          have hidx : p0 + j = k * xs.length + j := by rw [hl'.out]; have := hp0.out; omega
          have HS := hide (show (gs.take (p0 + (j + 1))).any id = (fb || fxMulS x y) from by
            rw [← Nat.add_assoc, take_snocG (zs := gs) (p := p0 + j) (z := fxMulS x y) (by rw [HG.out, hidx, outSL_get (by rw [hl.out]; exact hlt) (by rw [hl'.out]; exact hlt'), HX.out, hy]), hfb]; simp)
          have HVV := hide (show ivs (zs.take (p0 + (j + 1))) = ivs (zs.take (p0 + j)) ++ [iv (fxMul x y)] from by
            rw [← Nat.add_assoc, take_snocG (zs := zs) (p := p0 + j) (z := fxMul x y) (by rw [HZ.out, hidx, outL_get (by rw [hl.out]; exact hlt) (by rw [hl'.out]; exact hlt'), HX.out, hy])]; simp [ivs])
          have hj1 : (0 : Int) ≤ (j : Int) := by omega
          have hj2 : (j : Int) < (n' : Int) := by omega
          clear hy hfb hidx hc' h'
          have k0 := cell_regrown (cellB (Below.refl _ _) hcx2)
          have k1 := cell_regrown hcy
          have cM : ∀ d os, Calls Try.prog 135 #[.int .i64 x, .int .i64 y] (grow (redrawn wr d) os) fun e w'' => e = .returned (.tuple #[.int .i64 (fxMul x y), .bool (fxMulS x y)]) ∧ ∃ p : Regrown, w'' = grow (redrawn wr p.d) p.os :=
            fun d os => Calls.regrown_of ((spec_FixMul x y _).mono fun e w' ⟨he, hw⟩ => ⟨he, hw ▸ Below.refl _ _⟩)
          have CM := hide cM
          clear cM
          go_wp2_with fail
          refine wp_region_quiet_below (by kernel_rfl) (by kernel_rfl) ?_
          repeat (go_big_quiet_step (first | with_reducible exact CM.out _ _))
          refine wpQuiet_nil ?_
          intro _ hw'
          obtain ⟨⟨dq, osq⟩, hw''⟩ := hw'
          subst hw''
          have hq_w2 := below_regrown wr dq osq
          generalize grow (redrawn wr dq) osq = w2 at *
          have pb2 := (hq_w2.block _ (by omega)).trans pb
          have pa2 := (hq_w2.block _ (by omega)).trans pa
          have hown2 := ownsB hown hq_w2
          have hsz2 : w.heap.size + 2 ≤ w2.heap.size := Nat.le_trans hsz hq_w2.size
          have hbb := hb.trans (hq_w2.mono hb.size)
          clear hq_w2 k0 k1
          have hpb2 := pb2
          have t2 := blk_cell pb2 2
          have g2 := blk_free pb2 2
          simp at t2
          cases fb
          all_goals
            go_wp2_with (first | (at_builtin; refine wpList_push1 w2 (iv (fxMul x y)) rfl (.tmp 51) (.tmp 53) _ rfl (w.heap.size + 2) 3 _ 8 Try.underlying25 int_info rfl v1 _ _ rfl hown2 rfl rfl (by omega) (by omega) hsz2 ?_; intro v' w3 hown' hgr _; obtain ⟨A9, c9, hv9⟩ := ownsRow_form hown'; rw [hv9]; rw [hv9] at hown'; have hne : ∀ q, v1.ownBlock = some q → w.heap.size + 2 ≤ q := fun q hq => (hown2.lt q hq).1; have pb3 := (hgr.block (w.heap.size + 1) (by omega) (fun hc => by have := hne _ hc.symm; omega)).trans hpb2; have pa3 := (hgr.block w.heap.size (by omega) (fun hc => by have := hne _ hc.symm; omega)).trans pa2; have t3 := blk_cell pb3 2; have g3 := blk_free pb3 2; simp at t3))
            go_roundw
            case rel => exact ⟨j + 1, by omega, by go_num, by rw [HS.out]; rfl, ⟨_, blk_set pb3 2 _, ownsRow_setCell_below (by rw [HVV.out]; exact hown') (show w.heap.size + 1 < w.heap.size + 2 by omega) _⟩, blk_far pa3 (by omega) _, below_set (hbb.grown hgr (by omega) (fun q hq => by have := hne q hq; omega)) _ _ (by omega) _, by have := hgr.size; simp [World.setCell]; omega⟩
            case measure => simp [intOf]; omega
        · obtain rfl : n' = j := by omega
          have HP := hide (show p0 + n' = (k + 1) * n' from by rw [Nat.succ_mul, hp0.out])
          clear h'
          go_wp2_with fail
          go_roundw
          case rel => exact ⟨k + 1, by omega, by go_num, ⟨p0 + n', HP.out, rfl, v1, pb, hown⟩, pa, hb, hsz⟩
          case measure => simp [intOf]; omega
    · obtain rfl : k = n := by omega
      have e0 : p0 = k * n' := hp0.out
      have e1 : zs.take p0 = zs := List.take_of_length_le (by rw [HZL.out, e0]; exact Nat.le_refl _)
      have e2 : gs.take p0 = gs := List.take_of_length_le (by rw [HGL.out, e0]; exact Nat.le_refl _)
      rw [e1] at hown
      rw [e2]
      have hzl : zs.length = p0 := by rw [HZL.out, e0]
      have HOWN := hide hown
      obtain ⟨A9, c9, hv9⟩ := ownsRow_form hown
      rw [hv9] at pb HOWN
      have t0 := blk_cell pb 0
      have t1 := blk_cell pb 1
      have t2 := blk_cell pb 2
      have a0 := blk_cell pa 0
      have a1 := blk_cell pa 1
      have a2 := blk_cell pa 2
      have b0 := blk_free pa 0
      have b1 := blk_free pa 1
      have b2 := blk_free pa 2
      simp at t0 t1 t2 a0 a1 a2
      have PA := hide pa
      have HB := hide hb
      have E := hide (And.intro (show mOutR ds xs = (k : Int) from by rw [mOutR, if_pos HOK.out, hl.out]) (And.intro (show mOutC ds xs = (n' : Int) from by rw [mOutC, if_pos HOK.out, hl'.out]) (And.intro (show mOutS ds xs = gs.any id from by rw [mOutS, HOK.out, HG.out]; rfl) (show mOut ds xs = zs from by rw [mOut, if_pos HOK.out, HZ.out]))))
      clear h h' e1 e2 hown pa hb e0
      go_wp2_with fail
      refine bodyPost_ret (results_cell_row2 (P := Try.prog) (d := _) rfl _ _ w.heap.size 113 #[.int .i64 (k : Int), .int .i64 (n' : Int), .slice A9 p0 c9] (0, 0) rfl ?_ Try.underlying113 rfl rfl) rfl ?_
      · exact blk_set (blk_set (blk_set PA.out 0 _) 1 _) 2 _
      · obtain ⟨E1, E2, E3, E4⟩ := E.out
        refine ⟨A9, p0, c9, by rw [E1, E2, E3]; rfl, ?_, below_set (below_set (below_set HB.out _ _ (Nat.le_refl _) _) _ _ (Nat.le_refl _) _) _ _ (Nat.le_refl _) _⟩
        rw [E4]
        exact (OI.of_own (ownsLo (ownsRow_setCell_below (ownsRow_setCell_below (ownsRow_setCell_below HOWN.out (show w.heap.size < w.heap.size + 2 by omega) _) (show w.heap.size < w.heap.size + 2 by omega) _) (show w.heap.size < w.heap.size + 2 by omega) _) (show w.heap.size ≤ w.heap.size + 2 by omega)))
end Go.Proofs.Ytehfglfbnjdcoaa
