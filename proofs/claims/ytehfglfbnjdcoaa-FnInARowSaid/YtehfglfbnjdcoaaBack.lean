/-
  The contracts of MatBack.
-/
import Derived.Test.YtehfglfbnjdcoaaTran
import Derived.WalkKit
namespace Go.Proofs.Ytehfglfbnjdcoaa
open Go.RowKit
set_option maxRecDepth 100000

theorem NewI.since {e : TypeId} {w w1 w' : World} {xs : List Int} {v : Value} (h : NewI e w1 xs v w') (hb : Below w.heap.size w w1) : NewI e w xs v w' :=
  ⟨h.1.more hb.size (Nat.le_refl _), hb.trans (h.2.mono hb.size)⟩
theorem mbOk_no {r c : Int} {xs ys : List Int} (h : mbOk r c xs ys = false) : mBack r c xs ys = [] ∧ mBackS r c xs ys = false := by
  rw [mBack, mBackS, h]; exact ⟨rfl, rfl⟩
set_option maxHeartbeats 4000000 in
theorem impl_MatBack {B n cap B' n' c' : Nat} {A A' : Option Addr} {xs ys : List Int} (r c : Int) (w : World) (h : RI w B A n cap xs) (h' : RI w B' A' n' c' ys) (hB : B ≤ w.heap.size) (hB' : B' ≤ w.heap.size) (hn : n ≤ 1048576) (hn' : n' ≤ 1048576) :
    Calls Try.prog 101 #[Matv r c A n cap, .slice A' n' c'] w (GivesB (mBackS r c xs ys) (NI w (mBack r c xs ys))) := by
  obtain ⟨wb, hwb⟩ : ∃ wb, wb = w.alloc (.cells #[.int .i64 r, .int .i64 c, .slice A n cap] 113) := ⟨_, rfl⟩
  have hb0 : Below w.heap.size w wb := hwb ▸ (Below.refl _ _).alloc (Nat.le_refl _) _
  have x0 : wb.cell? ⟨w.heap.size, 0, none⟩ = some (.int .i64 r) := by rw [hwb]; simp
  have x1 : wb.cell? ⟨w.heap.size, 1, none⟩ = some (.int .i64 c) := by rw [hwb]; simp
  have x2 : wb.cell? ⟨w.heap.size, 2, none⟩ = some (.slice A n cap) := by rw [hwb]; simp
  have hsb := hb0.size
  have HOK := hide (impl_MatOk r c wb (h.below (hb0.mono hB)) (by omega) hn)
  have HV := hide (fun (W : World) (hW : Below w.heap.size w W) => impl_vecOf r W (h'.below (hW.mono hB')) hn')
  have HT := hide (fun (W : World) (hW : Below w.heap.size w W) => impl_Transpose r c W (h.below (hW.mono hB)) (by have := hW.size; omega) hn)
  have HM := hide (fun (W : World) (A1 : Option Addr) (n1 c1 : Nat) (hW : Below w.heap.size w W) (h1 : RI W W.heap.size A1 n1 c1 (mTr r c xs)) => impl_MatVec (mTrR r c xs) (mTrC r c xs) W h1 (h'.below (hW.mono hB')) (Nat.le_refl _) (by have := hW.size; omega) (by rw [← h1.1]; have := mTr_len r c xs; omega) hn')
  have HW := hide hwb
  clear hwb h h' hn hn'
  by_cases hok : okM r c xs = true
  case neg =>
    have hof : okM r c xs = false := by simpa using hok
    have HF := hide (mbOk_no (r := r) (c := c) (xs := xs) (ys := ys) (by rw [mbOk, hof]; rfl))
    rw [hof] at HOK
    clear hok hof
    go_enter Try.func101, Try.ntmps101
    go_wp2_with fail
    rw [← HW.out]
    refine HOK.out.mono ?_
    rintro e w1 ⟨rfl, hb1⟩
    go_wp2_with fail
    go_ret2
    exact givesB HF.out.2.symm ⟨by rw [HF.out.1]; exact OI.nil _ _ _ _, hb0.trans (hb1.mono hsb)⟩
  rw [hok] at HOK
  by_cases hv : (okV ys && decide ((ys.length : Int) = r)) = true
  case neg =>
    have hvf : (okV ys && decide ((ys.length : Int) = r)) = false := by simpa using hv
    have HF := hide (mbOk_no (r := r) (c := c) (xs := xs) (ys := ys) (by rw [mbOk, hok, Bool.true_and]; exact hvf))
    rw [hvf] at HV
    clear hok hv hvf
    go_enter Try.func101, Try.ntmps101
    go_wp2_with fail
    rw [← HW.out]
    refine HOK.out.mono ?_
    rintro e w1 ⟨rfl, hb1⟩
    replace x0 := cellB hb1 x0
    have hbw := hb0.trans (hb1.mono hsb)
    go_wp2_with fail
    refine (HV.out _ hbw).mono ?_
    rintro e w' ⟨rfl, rfl⟩
    go_wp2_with fail
    go_ret2
    exact givesB HF.out.2.symm ⟨by rw [HF.out.1]; exact OI.nil _ _ _ _, hbw⟩
  have hmb : mbOk r c xs ys = true := by rw [mbOk, hok, Bool.true_and]; exact hv
  have HE := hide (mBack_vec r c xs ys hmb)
  have HR := hide (show mTrR r c xs = c ∧ mTrC r c xs = r from by rw [mTrR, mTrC, if_pos hok, if_pos hok]; exact ⟨rfl, rfl⟩)
  rw [hv] at HV
  clear hok hv hmb
  go_enter Try.func101, Try.ntmps101
  go_wp2_with fail
  rw [← HW.out]
  refine HOK.out.mono ?_
  rintro e w1 ⟨rfl, hb1⟩
  replace x0 := cellB hb1 x0
  replace x1 := cellB hb1 x1
  replace x2 := cellB hb1 x2
  have hbw := hb0.trans (hb1.mono hsb)
  go_wp2_with fail
  refine (HV.out _ hbw).mono ?_
  rintro e w' ⟨rfl, rfl⟩
  go_wp2_with fail
  refine (HT.out _ hbw).mono ?_
  rintro e w2 ⟨A1, n1, c1, rfl, ho, hb2⟩
  have hbw2 := hbw.trans (hb2.mono hbw.size)
  have hri := ho.ri
  go_wp2_with fail
  refine (HM.out w2 A1 n1 c1 hbw2 hri).mono ?_
  rintro e w3 ⟨v, rfl, hq⟩
  have HQ := hide hq
  clear hq hri ho
  go_wp2_with fail
  go_ret2
  obtain ⟨E1, E2⟩ := HE.out
  obtain ⟨R1, R2⟩ := HR.out
  have hq := HQ.out
  rw [R1, R2, E1] at hq
  exact givesB (by rw [R1, R2, E2]) (hq.since hbw2)
set_option maxHeartbeats 4000000 in
theorem spec_MatBack {B n cap B' n' c' : Nat} {A A' : Option Addr} {xs ys : List Int} (r c : Int) (w : World) (h : RI w B A n cap xs) (h' : RI w B' A' n' c' ys) (hB : B ≤ w.heap.size) (hB' : B' ≤ w.heap.size) (hn : n ≤ 1048576) (hn' : n' ≤ 1048576) :
    Calls Try.prog 99 #[Matv r c A n cap, .slice A' n' c'] w (GivesB (mBackS r c xs ys) (NI w (mBack r c xs ys))) := by
  have hl := hide h.1
  have hl' := hide h'.1
  obtain ⟨wb, hwb⟩ : ∃ wb, wb = (w.alloc (.cells #[.int .i64 r, .int .i64 c, .slice A n cap] 113)).alloc (.cells #[] 3) := ⟨_, rfl⟩
  have hb0 : Below w.heap.size w wb := hwb ▸ ((Below.refl _ _).alloc (Nat.le_refl _) _).alloc (by simp) _
  have s0 : wb.heap.size = w.heap.size + 2 := by rw [hwb]; simp
  have p0 : wb.heap[w.heap.size]? = some (.cells #[.int .i64 r, .int .i64 c, .slice A n cap] 113 (0, 0)) := by rw [hwb, Below.heap_alloc _ _ _ (by simp)]; exact heap_alloc_new _ _
  have ho0 : wb.ownsRow (w.heap.size + 1) 3 1 (.slice (some ⟨w.heap.size + 1, 0, none⟩) 0 0) 0 (ivs []) := by
    have := World.ownsRow_made (e := 3) (size := 1) (w.alloc (.cells #[.int .i64 r, .int .i64 c, .slice A n cap] 113)) #[] 0 (base := w.heap.size + 1) (by simp) (by decide) rfl
    rw [hwb]
    simpa [ivs] using this
  have x0 := blk_cell p0 0
  have x1 := blk_cell p0 1
  have x2 := blk_cell p0 2
  simp at x0 x1 x2
  have HOK := hide (spec_MatOk r c wb (h.below (hb0.mono hB)) (by omega) hn)
  have HV := hide (fun (W : World) (hW : Below w.heap.size w W) => spec_VecOk W (h'.below (hW.mono hB')) hn')
  have HW := hide hwb
  clear hwb
  by_cases hok : okM r c xs = true
  case neg =>
    have hof : okM r c xs = false := by simpa using hok
    have HF := hide (mbOk_no (r := r) (c := c) (xs := xs) (ys := ys) (by rw [mbOk, hof]; rfl))
    rw [hof] at HOK
    clear hok hof h h'
    go_enter Try.func99, Try.ntmps99
    go_wp2_with fail
    rw [← HW.out]
    refine HOK.out.mono ?_
    rintro e w1 ⟨rfl, hb1⟩
    go_wp2_with fail
    go_ret2
    exact givesB HF.out.2.symm (NewI.own (ownsLo (ownsB ho0 hb1) (by omega)) (hb0.trans (hb1.mono (by omega))) HF.out.1.symm)
  rw [hok] at HOK
  by_cases hv : okV ys = true
  case neg =>
    have hvf : okV ys = false := by simpa using hv
    have HF := hide (mbOk_no (r := r) (c := c) (xs := xs) (ys := ys) (by rw [mbOk, hvf]; simp))
    rw [hvf] at HV
    clear hok hv hvf h h'
    go_enter Try.func99, Try.ntmps99
    go_wp2_with fail
    rw [← HW.out]
    refine HOK.out.mono ?_
    rintro e w1 ⟨rfl, hb1⟩
    go_wp2_with fail
    refine (HV.out _ (hb0.trans (hb1.mono (by omega)))).mono ?_
    rintro e w' ⟨rfl, rfl⟩
    go_wp2_with fail
    go_ret2
    exact givesB HF.out.2.symm (NewI.own (ownsLo (ownsB ho0 hb1) (by omega)) (hb0.trans (hb1.mono (by omega))) HF.out.1.symm)
  rw [hv] at HV
  by_cases hnr : (n' : Int) = r
  case neg =>
    have HF := hide (mbOk_no (r := r) (c := c) (xs := xs) (ys := ys) (by rw [mbOk, decide_eq_false (show ¬ ((ys.length : Int) = r) from by rw [hl'.out]; exact hnr)]; simp))
    have hne : ((n' : Int) != r) = true := by simpa using hnr
    clear hok hv h h' hnr
    go_enter Try.func99, Try.ntmps99
    go_wp2_with fail
    rw [← HW.out]
    refine HOK.out.mono ?_
    rintro e w1 ⟨rfl, hb1⟩
    have y0 := cellB hb1 x0
    go_wp2_with fail
    refine (HV.out _ (hb0.trans (hb1.mono (by omega)))).mono ?_
    rintro e w' ⟨rfl, rfl⟩
    go_wp2_with fail
    go_ret2
    exact givesB HF.out.2.symm (NewI.own (ownsLo (ownsB ho0 hb1) (by omega)) (hb0.trans (hb1.mono (by omega))) HF.out.1.symm)
  have hmb : mbOk r c xs ys = true := by rw [mbOk, hok, hv, decide_eq_true (show (ys.length : Int) = r from by rw [hl'.out]; exact hnr)]; rfl
  obtain ⟨R, C, rfl, rfl, hR1, hR6, hC1, hC6, hxl, _⟩ := okM_spec hok
  have hne : ((n' : Int) != (R : Int)) = false := by simpa using hnr
  obtain ⟨zs, hz⟩ : ∃ zs, zs = (List.range C).map fun k => vDot (colK R C xs k) ys := ⟨_, rfl⟩
  obtain ⟨gs, hg⟩ : ∃ gs, gs = (List.range C).map fun k => vDotS (colK R C xs k) ys := ⟨_, rfl⟩
  have HZL := hide (show zs.length = C from by rw [hz]; simp)
  have HGL := hide (show gs.length = C from by rw [hg]; simp)
  have HZ := hide hz
  have HG := hide hg
  have HM := hide (show mBack R C xs ys = zs ∧ mBackS R C xs ys = gs.any id from by
    rw [mBack, mBackS, hmb, if_pos rfl, hz, hg]
    exact ⟨mvRow_tpose R C xs ys, by rw [Bool.true_and]; simp only [Int.toNat_natCast]; rw [mvRowS_tpose]⟩)
  have HX := hide hxl
  clear hz hg hmb hok hv hxl hnr hn
  go_enter Try.func99, Try.ntmps99
  go_wp2_with fail
  rw [← HW.out]
  refine HOK.out.mono ?_
  rintro e w1 ⟨rfl, hb1⟩
  have hbw := hb0.trans (hb1.mono (show w.heap.size ≤ wb.heap.size by omega))
  replace x0 := cellB hb1 x0
  replace x1 := cellB hb1 x1
  replace x2 := cellB hb1 x2
  replace p0 := (hb1.block _ (by omega)).trans p0
  replace ho0 := ownsB ho0 hb1
  have s1 : w.heap.size + 2 ≤ w1.heap.size := by have := hb1.size; omega
  clear hb0 hb1
  go_wp2_with fail
  refine (HV.out _ hbw).mono ?_
  rintro e w' ⟨rfl, rfl⟩
  go_wp2_with fail
  clear x0 x1 x2
  go_loopw [6, 7, 8] (fun v fl i wr => ∃ k : Nat, k ≤ C ∧ i = .int .i64 (k : Int) ∧ fl = .bool ((gs.take k).any id) ∧ wr.ownsRow (w.heap.size + 1) 3 1 v k (ivs (zs.take k)) ∧ wr.heap[w.heap.size]? = some (.cells #[.int .i64 (R : Int), .int .i64 (C : Int), .slice A n cap] 113 (0, 0)) ∧ Below w.heap.size w wr ∧ w.heap.size + 2 ≤ wr.heap.size)
    (fun _ _ i _ => C - (intOf i).toNat)
  case atStart => exact ⟨0, Nat.zero_le _, rfl, rfl, ho0, p0, hbw, s1⟩
  case round =>
    clear ho0 p0 hbw s1
    obtain ⟨k, hk, rfl, rfl, hown, pm, hb, hsz⟩ := hrel
    have x0 := blk_cell pm 0
    have x1 := blk_cell pm 1
    have x2 := blk_cell pm 2
    simp at x0 x1 x2
    by_cases hlt : k < C
    · obtain ⟨fb, hfb⟩ : ∃ fb, fb = (gs.take k).any id := ⟨_, rfl⟩
      obtain ⟨x, hx⟩ : ∃ x, x = vDot (colK R C xs k) ys := ⟨_, rfl⟩
      obtain ⟨o1, ho1⟩ : ∃ o1, o1 = vDotS (colK R C xs k) ys := ⟨_, rfl⟩
      rw [← hfb]
      have HS := hide (show (gs.take (k + 1)).any id = (fb || o1) from by rw [any_one gs k (by rw [HGL.out]; exact hlt), hfb, HG.out, range_get _ C k hlt, ho1])
      have HVV := hide (show ivs (zs.take (k + 1)) = ivs (zs.take k) ++ [iv x] from by rw [HZ.out, take_range_succ _ C k hlt, hx]; simp [ivs])
      have HCOL := hide (show Calls Try.prog 142 #[Matv R C A n cap, .int .i64 (k : Int)] wr (Gives (NI wr (colK R C xs k))) from spec_l4Col wr (h.below (hb.mono hB)) (by omega) HX.out hlt hR6 hC6)
      have HDOT := hide (fun (W : World) (A1 : Option Addr) (n1 c1 : Nat) (hW : Below w.heap.size w W) (h1 : RI W W.heap.size A1 n1 c1 (colK R C xs k)) => show Calls Try.prog 98 #[.slice A1 n1 c1, .slice A' n' c'] W (Quiet (.tuple #[.int .i64 x, .bool o1]) W) from by
        rw [hx, ho1]
        exact spec_VecDot W h1 (h'.below (hW.mono hB')) (by rw [← h1.1, colK_len]; omega) hn')
      clear hx ho1 hfb h h'
      cases fb
      all_goals
        go_wp2_with fail
        refine HCOL.out.mono ?_
        rintro e w4 ⟨vc, rfl, hq⟩
        obtain ⟨A1, n1, c1, rfl, hoc, hb4⟩ := newI hq
        clear hq
        have hri := hoc.ri
        go_wp2_with fail
        refine (HDOT.out w4 A1 n1 c1 (hb.trans (hb4.mono hb.size)) hri).mono ?_
        rintro e w2 hq2
        obtain ⟨rfl, hb2⟩ := hq2.below
        clear hq2
        replace hb2 := below2 hb4 hb2
        have hown2 := ownsB hown hb2
        have pm2 := (hb2.block _ (by omega)).trans pm
        have hsz2 := hb2.size
        have hbb := hb.trans (hb2.mono hb.size)
        clear hri hoc hb4
        go_wp2_with (at_builtin; refine wpList_push1 w2 (iv x) rfl (.tmp 42) (.tmp 44) _ rfl (w.heap.size + 1) 3 _ 8 Try.underlying25 int_info rfl u6 _ _ rfl hown2 rfl rfl (by omega) (by omega) (by omega) ?_; intro v' w3 hown' hgr _)
        go_roundw
        case rel => exact ⟨k + 1, by omega, by go_num, by rw [HS.out]; rfl, by rw [HVV.out]; exact hown', (hgr.block _ (by omega) (fun hc => by have := (hown2.lt _ hc.symm).1; omega)).trans pm2, hbb.grown hgr (by omega) (fun q hq => by have := (hown2.lt q hq).1; omega), by have := hgr.size; omega⟩
        case measure => simp [intOf]; omega
    · have hkC : C ≤ k := by omega
      clear h h'
      go_wp2_with fail
      go_ret2
      exact givesB (by rw [HM.out.2, List.take_of_length_le (by rw [HGL.out]; exact hkC)]) (NewI.own (ownsLo hown (by omega)) hb (by rw [HM.out.1, List.take_of_length_le (by rw [HZL.out]; exact hkC)]))
end Go.Proofs.Ytehfglfbnjdcoaa
