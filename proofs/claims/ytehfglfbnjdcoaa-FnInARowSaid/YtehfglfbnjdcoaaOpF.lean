/-
  The contracts of OpForward.
-/
import Derived.Test.YtehfglfbnjdcoaaJPlain
import Derived.Test.YtehfglfbnjdcoaaOp2
import Derived.Test.YtehfglfbnjdcoaaOp3
import Derived.Test.YtehfglfbnjdcoaaMat
import Derived.Test.YtehfglfbnjdcoaaBack
import Derived.WalkKit
namespace Go.Proofs.Ytehfglfbnjdcoaa
open Go.RowKit
set_option maxRecDepth 100000

theorem impl_matOf (k i o : Int) (A : Option Addr) (n cap : Nat) (w : World) :
    Calls Try.prog 93 #[Opv k i o A n cap] w fun e w' => e = .returned (Matv o i A n cap) ∧ Below w.heap.size w w' := by
  have HB := hide (show Below w.heap.size w ((w.alloc (.cells #[.int .i64 k, .int .i64 i, .int .i64 o, .slice A n cap] 52)).alloc (.cells #[.int .i64 o, .int .i64 i, .slice A n cap] 113)) from ((Below.refl _ _).alloc (Nat.le_refl _) _).alloc (by simp) _)
  have HP := hide (show ((w.alloc (.cells #[.int .i64 k, .int .i64 i, .int .i64 o, .slice A n cap] 52)).alloc (.cells #[.int .i64 o, .int .i64 i, .slice A n cap] 113)).heap[w.heap.size + 1]? = some (.cells #[.int .i64 o, .int .i64 i, .slice A n cap] 113 (0, 0)) from by
    have := heap_alloc_new (w.alloc (.cells #[.int .i64 k, .int .i64 i, .int .i64 o, .slice A n cap] 52)) (.cells #[.int .i64 o, .int .i64 i, .slice A n cap] 113)
    simpa using this)
  go_enter Try.func93, Try.ntmps93
  go_wp2_with fail
  refine bodyPost_ret (results_cell_row (P := Try.prog) (d := _) rfl _ _ (w.heap.size + 1) 113 #[.int .i64 o, .int .i64 i, .slice A n cap] (0, 0) rfl ?_ Try.underlying113 rfl rfl) rfl ?_
  · exact HP.out
  · exact ⟨rfl, HB.out⟩
theorem spec_l5Mat (k i o : Int) (A : Option Addr) (n cap : Nat) (w : World) :
    Calls Try.prog 86 #[Opv k i o A n cap] w fun e w' => e = .returned (Matv o i A n cap) ∧ Below w.heap.size w w' := by
  have HB := hide (show Below w.heap.size w ((w.alloc (.cells #[.int .i64 k, .int .i64 i, .int .i64 o, .slice A n cap] 52)).alloc (.cells #[.int .i64 o, .int .i64 i, .slice A n cap] 113)) from ((Below.refl _ _).alloc (Nat.le_refl _) _).alloc (by simp) _)
  have HP := hide (show ((w.alloc (.cells #[.int .i64 k, .int .i64 i, .int .i64 o, .slice A n cap] 52)).alloc (.cells #[.int .i64 o, .int .i64 i, .slice A n cap] 113)).heap[w.heap.size + 1]? = some (.cells #[.int .i64 o, .int .i64 i, .slice A n cap] 113 (0, 0)) from by
    have := heap_alloc_new (w.alloc (.cells #[.int .i64 k, .int .i64 i, .int .i64 o, .slice A n cap] 52)) (.cells #[.int .i64 o, .int .i64 i, .slice A n cap] 113)
    simpa using this)
  go_enter Try.func86, Try.ntmps86
  go_wp2_with fail
  refine bodyPost_ret (results_cell_row (P := Try.prog) (d := _) rfl _ _ (w.heap.size + 1) 113 #[.int .i64 o, .int .i64 i, .slice A n cap] (0, 0) rfl ?_ Try.underlying113 rfl rfl) rfl ?_
  · exact HP.out
  · exact ⟨rfl, HB.out⟩
set_option maxHeartbeats 4000000 in
theorem impl_OpForward {B n cap B' n' c' : Nat} {A A' : Option Addr} {p xs : List Int} (k i o : Int) (w : World) (h : RI w B A n cap p) (h' : RI w B' A' n' c' xs) (hB : B ≤ w.heap.size) (hB' : B' ≤ w.heap.size) (hn : n ≤ 1048576) (hn' : n' ≤ 1048576) :
    Calls Try.prog 31 #[Opv k i o A n cap, .slice A' n' c'] w (GivesB (fwS ⟨k, i, o, p⟩ xs) (NI w (fw ⟨k, i, o, p⟩ xs))) := by
  obtain ⟨wb, hwb⟩ : ∃ wb, wb = w.alloc (.cells #[.int .i64 k, .int .i64 i, .int .i64 o, .slice A n cap] 52) := ⟨_, rfl⟩
  have hb0 : Below w.heap.size w wb := hwb ▸ (Below.refl _ _).alloc (Nat.le_refl _) _
  have x0 : wb.cell? ⟨w.heap.size, 0, none⟩ = some (.int .i64 k) := by rw [hwb]; simp
  have x1 : wb.cell? ⟨w.heap.size, 1, none⟩ = some (.int .i64 i) := by rw [hwb]; simp
  have x2 : wb.cell? ⟨w.heap.size, 2, none⟩ = some (.int .i64 o) := by rw [hwb]; simp
  have x3 : wb.cell? ⟨w.heap.size, 3, none⟩ = some (.slice A n cap) := by rw [hwb]; simp
  have hsb := hb0.size
  have HOK := hide (impl_OpOk k i o wb (h.below (hb0.mono hB)) (by omega) hn)
  have HP := hide (fun (W : World) (hW : Below w.heap.size w W) => h.below (hW.mono hB))
  have HX := hide (fun (W : World) (hW : Below w.heap.size w W) => h'.below (hW.mono hB'))
  have HN := hide hn
  have HN' := hide hn'
  have HB := hide hB
  have HB' := hide hB'
  have HL := hide h'.1
  have HLP := hide h.1
  have HV := hide (fun (W : World) (hW : Below w.heap.size w W) => impl_vecOf i W (h'.below (hW.mono hB')) hn')
  have HW := hide hwb
  clear hwb h h' hn hn' hB hB'
  by_cases hok : okO k i o p = true
  case neg =>
    have hof : okO k i o p = false := by simpa using hok
    have HF := hide (fw_no (d := ⟨k, i, o, p⟩) (xs := xs) (by rw [fwOk, okOd, hof]; rfl))
    rw [hof] at HOK
    clear hok hof
    go_enter Try.func31, Try.ntmps31
    go_wp2_with fail
    rw [← HW.out]
    refine HOK.out.mono ?_
    rintro e w1 ⟨rfl, hb1⟩
    replace x0 := cellB hb1 x0
    replace x1 := cellB hb1 x1
    replace x2 := cellB hb1 x2
    replace x3 := cellB hb1 x3
    have hbw := hb0.trans (hb1.mono hsb)
    clear hb1
    go_wp2_with fail
    go_ret2
    exact givesB HF.out.2.symm ⟨by rw [HF.out.1]; exact OI.nil _ _ _ _, hbw⟩
  rw [hok] at HOK
  by_cases hv : (okV xs && decide ((xs.length : Int) = i)) = true
  case neg =>
    have hvf : (okV xs && decide ((xs.length : Int) = i)) = false := by simpa using hv
    have HF := hide (fw_no (d := ⟨k, i, o, p⟩) (xs := xs) (by rw [fwOk, Bool.and_assoc, hvf, Bool.and_false]))
    rw [hvf] at HV
    clear hok hv hvf
    go_enter Try.func31, Try.ntmps31
    go_wp2_with fail
    rw [← HW.out]
    refine HOK.out.mono ?_
    rintro e w1 ⟨rfl, hb1⟩
    replace x0 := cellB hb1 x0
    replace x1 := cellB hb1 x1
    replace x2 := cellB hb1 x2
    replace x3 := cellB hb1 x3
    have hbw := hb0.trans (hb1.mono hsb)
    clear hb1
    go_wp2_with fail
    refine (HV.out _ hbw).mono ?_
    rintro e w' ⟨rfl, rfl⟩
    go_wp2_with fail
    go_ret2
    exact givesB HF.out.2.symm ⟨by rw [HF.out.1]; exact OI.nil _ _ _ _, hbw⟩
  rw [hv] at HV
  have hf : fwOk ⟨k, i, o, p⟩ xs = true := by rw [fwOk, Bool.and_assoc, hv, okOd, hok]; rfl
  clear hv
  have hsp := okOd_spec (d := ⟨k, i, o, p⟩) hok
  have HY := hide (fw_yes hf)
  have hkk : k = 1 ∨ k = 2 ∨ k = 3 ∨ k = 4 ∨ k = 5 := by have hk1 : 1 ≤ k := hsp.1; have hk2 : k ≤ 5 := hsp.2.1; omega
  clear hok hf
  rcases hkk with rfl | rfl | rfl | rfl | rfl
  · clear hsp
    go_enter Try.func31, Try.ntmps31
    go_wp2_with fail
    rw [← HW.out]
    refine HOK.out.mono ?_
    rintro e w1 ⟨rfl, hb1⟩
    replace x0 := cellB hb1 x0
    replace x1 := cellB hb1 x1
    replace x2 := cellB hb1 x2
    replace x3 := cellB hb1 x3
    have hbw := hb0.trans (hb1.mono hsb)
    clear hb1
    go_wp2_with fail
    refine (HV.out _ hbw).mono ?_
    rintro e w' ⟨rfl, rfl⟩
    go_wp2_with fail
    refine (impl_matOf _ _ _ _ _ _ w1).mono ?_
    rintro e w2 ⟨rfl, hb2⟩
    have hbw := hbw.trans (hb2.mono hbw.size)
    replace x3 := cellB hb2 x3
    clear hb2
    go_wp2_with fail
    refine (impl_MatVec o i w2 (HP.out _ hbw) (HX.out _ hbw) (by have := hbw.size; have := HB.out; omega) (by have := hbw.size; have := HB'.out; omega) HN.out HN'.out).mono ?_
    rintro e w3 ⟨v, rfl, hq⟩
    have HQ := hide hq
    clear hq
    go_wp2_with fail
    go_ret2
    exact givesB (by rw [HY.out.2]; rfl) (by rw [HY.out.1]; exact NewI.since HQ.out hbw)
  · clear hsp
    go_enter Try.func31, Try.ntmps31
    go_wp2_with fail
    rw [← HW.out]
    refine HOK.out.mono ?_
    rintro e w1 ⟨rfl, hb1⟩
    replace x0 := cellB hb1 x0
    replace x1 := cellB hb1 x1
    replace x2 := cellB hb1 x2
    replace x3 := cellB hb1 x3
    have hbw := hb0.trans (hb1.mono hsb)
    clear hb1
    go_wp2_with fail
    refine (HV.out _ hbw).mono ?_
    rintro e w' ⟨rfl, rfl⟩
    go_wp2_with fail
    refine (impl_VecAdd w1 (HX.out _ hbw) (HP.out _ hbw) (by have := hbw.size; have := HB'.out; omega) (by have := hbw.size; have := HB.out; omega) HN'.out HN.out).mono ?_
    rintro e w3 ⟨v, rfl, hq⟩
    have HQ := hide hq
    clear hq
    go_wp2_with fail
    go_ret2
    exact givesB (by rw [HY.out.2]; rfl) (by rw [HY.out.1]; exact NewI.since HQ.out hbw)
  · clear hsp
    go_enter Try.func31, Try.ntmps31
    go_wp2_with fail
    rw [← HW.out]
    refine HOK.out.mono ?_
    rintro e w1 ⟨rfl, hb1⟩
    replace x0 := cellB hb1 x0
    replace x1 := cellB hb1 x1
    replace x2 := cellB hb1 x2
    replace x3 := cellB hb1 x3
    have hbw := hb0.trans (hb1.mono hsb)
    clear hb1
    go_wp2_with fail
    refine (HV.out _ hbw).mono ?_
    rintro e w' ⟨rfl, rfl⟩
    go_wp2_with fail
    refine (impl_VecRelu w1 (HX.out _ hbw) (by have := hbw.size; have := HB'.out; omega) HN'.out).mono ?_
    rintro e w3 ⟨v, rfl, hq⟩
    have HQ := hide hq
    clear hq
    go_wp2_with fail
    go_ret2
    exact givesB (by rw [HY.out.2]; rfl) (by rw [HY.out.1]; exact NewI.since HQ.out hbw)
  · have hn1 : n = 1 := by
      have h1 : (p.length : Int) = opSize 4 i o := hsp.2.2.2.2.2.2.2.1
      have h2 : opSize 4 i o = 1 := by
        rw [opSize, if_pos ⟨hsp.2.2.1, hsp.2.2.2.1, hsp.2.2.2.2.1, hsp.2.2.2.2.2.1⟩]; simp
      rw [h2] at h1
      have := HLP.out
      omega
    subst hn1
    obtain ⟨b, off, rfl, hbB, hc⟩ := (HP.out wb hb0).at_ (show 0 < 1 by omega)
    rw [Nat.add_zero] at hc
    obtain ⟨c0, hc0⟩ : ∃ c0, p.getD 0 0 = c0 := ⟨_, rfl⟩
    rw [hc0] at hc
    have HC := hide hc0
    have h01 : (0 : Int) ≤ 0 := by omega
    have h02 : (0 : Int) < ((1 : Nat) : Int) := by omega
    clear hsp hc0
    go_enter Try.func31, Try.ntmps31
    go_wp2_with fail
    rw [← HW.out]
    refine HOK.out.mono ?_
    rintro e w1 ⟨rfl, hb1⟩
    replace x0 := cellB hb1 x0
    replace x1 := cellB hb1 x1
    replace x2 := cellB hb1 x2
    replace x3 := cellB hb1 x3
    replace hc := cellB hb1 hc
    have hbw := hb0.trans (hb1.mono hsb)
    clear hb1
    go_wp2_with fail
    refine (HV.out _ hbw).mono ?_
    rintro e w' ⟨rfl, rfl⟩
    go_wp2_with fail
    refine (impl_VecScale c0 w1 (HX.out _ hbw) (by have := hbw.size; have := HB'.out; omega) HN'.out).mono ?_
    rintro e w3 ⟨v, rfl, hq⟩
    have HQ := hide hq
    clear hq
    go_wp2_with fail
    go_ret2
    exact givesB (by rw [HY.out.2, ← HC.out]; rfl) (by rw [HY.out.1, show fwV ⟨4, i, o, p⟩ xs = vScale c0 xs from by rw [← HC.out]; rfl]; exact NewI.since HQ.out hbw)
  · clear hsp
    obtain ⟨fb, hfb⟩ : ∃ fb, mVecS o i p xs = fb := ⟨_, rfl⟩
    have HMV := hide (fun (W : World) (hW : Below w.heap.size w W) => impl_MatVec o i W (HP.out W hW) (HX.out W hW) (by have := hW.size; have := HB.out; omega) (by have := hW.size; have := HB'.out; omega) HN.out HN'.out)
    rw [hfb] at HMV
    have HFB := hide hfb
    have HS := hide (show fwS ⟨5, i, o, p⟩ xs = (fb || vAddS xs (mVec o i p xs)) from by rw [HY.out.2, ← HFB.out]; rfl)
    have HV0 := hide (show fw ⟨5, i, o, p⟩ xs = vAdd xs (mVec o i p xs) from HY.out.1)
    rw [HS.out, HV0.out]
    clear hfb
    cases fb
    all_goals
      go_enter Try.func31, Try.ntmps31
      go_wp2_with fail
      rw [← HW.out]
      refine HOK.out.mono ?_
      rintro e w1 ⟨rfl, hb1⟩
      replace x0 := cellB hb1 x0
      replace x1 := cellB hb1 x1
      replace x2 := cellB hb1 x2
      replace x3 := cellB hb1 x3
      have hbw := hb0.trans (hb1.mono hsb)
      clear hb1
      go_wp2_with fail
      refine (HV.out _ hbw).mono ?_
      rintro e w' ⟨rfl, rfl⟩
      go_wp2_with fail
      refine (impl_matOf _ _ _ _ _ _ w1).mono ?_
      rintro e w2 ⟨rfl, hb2⟩
      have hbw := hbw.trans (hb2.mono hbw.size)
      replace x3 := cellB hb2 x3
      clear hb2
      go_wp2_with fail
      refine (HMV.out w2 hbw).mono ?_
      rintro e w3 ⟨v, rfl, hq⟩
      obtain ⟨A5, n5, c5, rfl, hO5, hb5⟩ := newI hq
      have hb6 := hbw.trans (hb5.mono hbw.size)
      have HO := hide hO5.ri
      have HB6 := hide hb6
      have hn5 : n5 ≤ 6 := by rw [← hO5.ri.1]; exact mVec_len ..
      clear hq hO5 hb5 hb6
      go_wp2_with fail
      refine (impl_VecAdd w3 (HX.out _ HB6.out) HO.out (by have := HB6.out.size; have := HB'.out; omega) (Nat.le_refl _) HN'.out (by omega)).mono ?_
      rintro e w4 ⟨v, rfl, hq⟩
      have HQ := hide hq
      clear hq
      go_wp2_with fail
      go_ret2
      exact givesB rfl (NewI.since HQ.out HB6.out)
set_option maxHeartbeats 4000000 in
theorem spec_OpForward {B n cap B' n' c' : Nat} {A A' : Option Addr} {p xs : List Int} (k i o : Int) (w : World) (h : RI w B A n cap p) (h' : RI w B' A' n' c' xs) (hB : B ≤ w.heap.size) (hB' : B' ≤ w.heap.size) (hn : n ≤ 1048576) (hn' : n' ≤ 1048576) :
    Calls Try.prog 28 #[Opv k i o A n cap, .slice A' n' c'] w (GivesB (fwS ⟨k, i, o, p⟩ xs) (NI w (fw ⟨k, i, o, p⟩ xs))) := by
  obtain ⟨wb, hwb⟩ : ∃ wb, wb = w.alloc (.cells #[.int .i64 k, .int .i64 i, .int .i64 o, .slice A n cap] 52) := ⟨_, rfl⟩
  have hb0 : Below w.heap.size w wb := hwb ▸ (Below.refl _ _).alloc (Nat.le_refl _) _
  have x0 : wb.cell? ⟨w.heap.size, 0, none⟩ = some (.int .i64 k) := by rw [hwb]; simp
  have x1 : wb.cell? ⟨w.heap.size, 1, none⟩ = some (.int .i64 i) := by rw [hwb]; simp
  have x2 : wb.cell? ⟨w.heap.size, 2, none⟩ = some (.int .i64 o) := by rw [hwb]; simp
  have x3 : wb.cell? ⟨w.heap.size, 3, none⟩ = some (.slice A n cap) := by rw [hwb]; simp
  have hsb := hb0.size
  have HOK := hide (spec_OpOk k i o wb (h.below (hb0.mono hB)) (by omega) hn)
  have HP := hide (fun (W : World) (hW : Below w.heap.size w W) => h.below (hW.mono hB))
  have HX := hide (fun (W : World) (hW : Below w.heap.size w W) => h'.below (hW.mono hB'))
  have HN := hide hn
  have HN' := hide hn'
  have HB := hide hB
  have HB' := hide hB'
  have HL := hide h'.1
  have HLP := hide h.1
  have HV := hide (fun (W : World) (hW : Below w.heap.size w W) => spec_VecOk W (h'.below (hW.mono hB')) hn')
  have HW := hide hwb
  clear hwb h h' hn hn' hB hB'
  by_cases hok : okO k i o p = true
  case neg =>
    have hof : okO k i o p = false := by simpa using hok
    have HF := hide (fw_no (d := ⟨k, i, o, p⟩) (xs := xs) (by rw [fwOk, okOd, hof]; rfl))
    rw [hof] at HOK
    clear hok hof
    go_enter Try.func28, Try.ntmps28
    go_wp2_with fail
    rw [← HW.out]
    refine HOK.out.mono ?_
    rintro e w1 ⟨rfl, hb1⟩
    replace x0 := cellB hb1 x0
    replace x1 := cellB hb1 x1
    replace x2 := cellB hb1 x2
    replace x3 := cellB hb1 x3
    have hbw := hb0.trans (hb1.mono hsb)
    clear hb1
    go_wp2_with fail
    go_ret2
    exact givesB HF.out.2.symm (NewI.since (NewI.own (n := 0) (xs := []) (World.ownsRow_lit w1 #[] 0 (Nat.le_refl _) (by decide) rfl) ((Below.refl _ _).alloc (Nat.le_refl _) _) HF.out.1.symm) hbw)
  rw [hok] at HOK
  by_cases hv : okV xs = true
  case neg =>
    have hvf : okV xs = false := by simpa using hv
    have HF := hide (fw_no (d := ⟨k, i, o, p⟩) (xs := xs) (by rw [fwOk, hvf, Bool.and_false]; rfl))
    rw [hvf] at HV
    clear hok hv hvf
    go_enter Try.func28, Try.ntmps28
    go_wp2_with fail
    rw [← HW.out]
    refine HOK.out.mono ?_
    rintro e w1 ⟨rfl, hb1⟩
    replace x0 := cellB hb1 x0
    replace x1 := cellB hb1 x1
    replace x2 := cellB hb1 x2
    replace x3 := cellB hb1 x3
    have hbw := hb0.trans (hb1.mono hsb)
    clear hb1
    go_wp2_with fail
    refine (HV.out _ hbw).mono ?_
    rintro e w' ⟨rfl, rfl⟩
    go_wp2_with fail
    go_ret2
    exact givesB HF.out.2.symm (NewI.since (NewI.own (n := 0) (xs := []) (World.ownsRow_lit w1 #[] 0 (Nat.le_refl _) (by decide) rfl) ((Below.refl _ _).alloc (Nat.le_refl _) _) HF.out.1.symm) hbw)
  rw [hv] at HV
  by_cases hl : (n' : Int) = i
  case neg =>
    have HF := hide (fw_no (d := ⟨k, i, o, p⟩) (xs := xs) (by rw [fwOk, HL.out, decide_eq_false hl, Bool.and_false]))
    have hne : ((n' : Int) != i) = true := by simpa using hl
    clear hok hv hl
    go_enter Try.func28, Try.ntmps28
    go_wp2_with fail
    rw [← HW.out]
    refine HOK.out.mono ?_
    rintro e w1 ⟨rfl, hb1⟩
    replace x0 := cellB hb1 x0
    replace x1 := cellB hb1 x1
    replace x2 := cellB hb1 x2
    replace x3 := cellB hb1 x3
    have hbw := hb0.trans (hb1.mono hsb)
    clear hb1
    go_wp2_with fail
    refine (HV.out _ hbw).mono ?_
    rintro e w' ⟨rfl, rfl⟩
    go_wp2_with fail
    go_ret2
    exact givesB HF.out.2.symm (NewI.since (NewI.own (n := 0) (xs := []) (World.ownsRow_lit w1 #[] 0 (Nat.le_refl _) (by decide) rfl) ((Below.refl _ _).alloc (Nat.le_refl _) _) HF.out.1.symm) hbw)
  have hf : fwOk ⟨k, i, o, p⟩ xs = true := by rw [fwOk, hv, okOd, hok, HL.out, decide_eq_true hl]; rfl
  have hne : ((n' : Int) != i) = false := by simp [hl]
  clear hv hl
  have hsp := okOd_spec (d := ⟨k, i, o, p⟩) hok
  have HY := hide (fw_yes hf)
  have hkk : k = 1 ∨ k = 2 ∨ k = 3 ∨ k = 4 ∨ k = 5 := by have hk1 : 1 ≤ k := hsp.1; have hk2 : k ≤ 5 := hsp.2.1; omega
  clear hok hf
  rcases hkk with rfl | rfl | rfl | rfl | rfl
  · clear hsp
    go_enter Try.func28, Try.ntmps28
    go_wp2_with fail
    rw [← HW.out]
    refine HOK.out.mono ?_
    rintro e w1 ⟨rfl, hb1⟩
    replace x0 := cellB hb1 x0
    replace x1 := cellB hb1 x1
    replace x2 := cellB hb1 x2
    replace x3 := cellB hb1 x3
    have hbw := hb0.trans (hb1.mono hsb)
    clear hb1
    go_wp2_with fail
    refine (HV.out _ hbw).mono ?_
    rintro e w' ⟨rfl, rfl⟩
    go_wp2_with fail
    refine (spec_l5Mat _ _ _ _ _ _ w1).mono ?_
    rintro e w2 ⟨rfl, hb2⟩
    have hbw := hbw.trans (hb2.mono hbw.size)
    replace x3 := cellB hb2 x3
    clear hb2
    go_wp2_with fail
    refine (spec_MatVec o i w2 (HP.out _ hbw) (HX.out _ hbw) (by have := hbw.size; have := HB.out; omega) (by have := hbw.size; have := HB'.out; omega) HN.out HN'.out).mono ?_
    rintro e w3 ⟨v, rfl, hq⟩
    have HQ := hide hq
    clear hq
    go_wp2_with fail
    go_ret2
    exact givesB (by rw [HY.out.2]; rfl) (by rw [HY.out.1]; exact NewI.since HQ.out hbw)
  · clear hsp
    go_enter Try.func28, Try.ntmps28
    go_wp2_with fail
    rw [← HW.out]
    refine HOK.out.mono ?_
    rintro e w1 ⟨rfl, hb1⟩
    replace x0 := cellB hb1 x0
    replace x1 := cellB hb1 x1
    replace x2 := cellB hb1 x2
    replace x3 := cellB hb1 x3
    have hbw := hb0.trans (hb1.mono hsb)
    clear hb1
    go_wp2_with fail
    refine (HV.out _ hbw).mono ?_
    rintro e w' ⟨rfl, rfl⟩
    go_wp2_with fail
    refine (spec_VecAdd w1 (HX.out _ hbw) (HP.out _ hbw) (by have := hbw.size; have := HB'.out; omega) (by have := hbw.size; have := HB.out; omega) HN'.out HN.out).mono ?_
    rintro e w3 ⟨v, rfl, hq⟩
    have HQ := hide hq
    clear hq
    go_wp2_with fail
    go_ret2
    exact givesB (by rw [HY.out.2]; rfl) (by rw [HY.out.1]; exact NewI.since HQ.out hbw)
  · clear hsp
    go_enter Try.func28, Try.ntmps28
    go_wp2_with fail
    rw [← HW.out]
    refine HOK.out.mono ?_
    rintro e w1 ⟨rfl, hb1⟩
    replace x0 := cellB hb1 x0
    replace x1 := cellB hb1 x1
    replace x2 := cellB hb1 x2
    replace x3 := cellB hb1 x3
    have hbw := hb0.trans (hb1.mono hsb)
    clear hb1
    go_wp2_with fail
    refine (HV.out _ hbw).mono ?_
    rintro e w' ⟨rfl, rfl⟩
    go_wp2_with fail
    refine (spec_VecRelu w1 (HX.out _ hbw) (by have := hbw.size; have := HB'.out; omega) HN'.out).mono ?_
    rintro e w3 ⟨v, rfl, hq⟩
    have HQ := hide hq
    clear hq
    go_wp2_with fail
    go_ret2
    exact givesB (by rw [HY.out.2]; rfl) (by rw [HY.out.1]; exact NewI.since HQ.out hbw)
  · have hn1 : n = 1 := by
      have h1 : (p.length : Int) = opSize 4 i o := hsp.2.2.2.2.2.2.2.1
      have h2 : opSize 4 i o = 1 := by
        rw [opSize, if_pos ⟨hsp.2.2.1, hsp.2.2.2.1, hsp.2.2.2.2.1, hsp.2.2.2.2.2.1⟩]; simp
      rw [h2] at h1
      have := HLP.out
      omega
    subst hn1
    obtain ⟨b, off, rfl, hbB, hc⟩ := (HP.out wb hb0).at_ (show 0 < 1 by omega)
    rw [Nat.add_zero] at hc
    obtain ⟨c0, hc0⟩ : ∃ c0, p.getD 0 0 = c0 := ⟨_, rfl⟩
    rw [hc0] at hc
    have HC := hide hc0
    have h01 : (0 : Int) ≤ 0 := by omega
    have h02 : (0 : Int) < ((1 : Nat) : Int) := by omega
    clear hsp hc0
    go_enter Try.func28, Try.ntmps28
    go_wp2_with fail
    rw [← HW.out]
    refine HOK.out.mono ?_
    rintro e w1 ⟨rfl, hb1⟩
    replace x0 := cellB hb1 x0
    replace x1 := cellB hb1 x1
    replace x2 := cellB hb1 x2
    replace x3 := cellB hb1 x3
    replace hc := cellB hb1 hc
    have hbw := hb0.trans (hb1.mono hsb)
    clear hb1
    go_wp2_with fail
    refine (HV.out _ hbw).mono ?_
    rintro e w' ⟨rfl, rfl⟩
    go_wp2_with fail
    refine (spec_VecScale c0 w1 (HX.out _ hbw) (by have := hbw.size; have := HB'.out; omega) HN'.out).mono ?_
    rintro e w3 ⟨v, rfl, hq⟩
    have HQ := hide hq
    clear hq
    go_wp2_with fail
    go_ret2
    exact givesB (by rw [HY.out.2, ← HC.out]; rfl) (by rw [HY.out.1, show fwV ⟨4, i, o, p⟩ xs = vScale c0 xs from by rw [← HC.out]; rfl]; exact NewI.since HQ.out hbw)
  · clear hsp
    obtain ⟨fb, hfb⟩ : ∃ fb, mVecS o i p xs = fb := ⟨_, rfl⟩
    have HMV := hide (fun (W : World) (hW : Below w.heap.size w W) => spec_MatVec o i W (HP.out W hW) (HX.out W hW) (by have := hW.size; have := HB.out; omega) (by have := hW.size; have := HB'.out; omega) HN.out HN'.out)
    rw [hfb] at HMV
    have HFB := hide hfb
    have HS := hide (show fwS ⟨5, i, o, p⟩ xs = (fb || vAddS xs (mVec o i p xs)) from by rw [HY.out.2, ← HFB.out]; rfl)
    have HV0 := hide (show fw ⟨5, i, o, p⟩ xs = vAdd xs (mVec o i p xs) from HY.out.1)
    rw [HS.out, HV0.out]
    clear hfb
    cases fb
    all_goals
      go_enter Try.func28, Try.ntmps28
      go_wp2_with fail
      rw [← HW.out]
      refine HOK.out.mono ?_
      rintro e w1 ⟨rfl, hb1⟩
      replace x0 := cellB hb1 x0
      replace x1 := cellB hb1 x1
      replace x2 := cellB hb1 x2
      replace x3 := cellB hb1 x3
      have hbw := hb0.trans (hb1.mono hsb)
      clear hb1
      go_wp2_with fail
      refine (HV.out _ hbw).mono ?_
      rintro e w' ⟨rfl, rfl⟩
      go_wp2_with fail
      refine (spec_l5Mat _ _ _ _ _ _ w1).mono ?_
      rintro e w2 ⟨rfl, hb2⟩
      have hbw := hbw.trans (hb2.mono hbw.size)
      replace x3 := cellB hb2 x3
      clear hb2
      go_wp2_with fail
      refine (HMV.out w2 hbw).mono ?_
      rintro e w3 ⟨v, rfl, hq⟩
      obtain ⟨A5, n5, c5, rfl, hO5, hb5⟩ := newI hq
      have hb6 := hbw.trans (hb5.mono hbw.size)
      have HO := hide hO5.ri
      have HB6 := hide hb6
      have hn5 : n5 ≤ 6 := by rw [← hO5.ri.1]; exact mVec_len ..
      clear hq hO5 hb5 hb6
      go_wp2_with fail
      refine (spec_VecAdd w3 (HX.out _ HB6.out) HO.out (by have := HB6.out.size; have := HB'.out; omega) (Nat.le_refl _) HN'.out (by omega)).mono ?_
      rintro e w4 ⟨v, rfl, hq⟩
      have HQ := hide hq
      clear hq
      go_wp2_with fail
      go_ret2
      exact givesB rfl (NewI.since HQ.out HB6.out)
end Go.Proofs.Ytehfglfbnjdcoaa
