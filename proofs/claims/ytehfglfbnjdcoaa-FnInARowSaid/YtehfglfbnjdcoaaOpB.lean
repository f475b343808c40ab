/-
  The contracts of OpBackward.
-/
import Derived.Test.YtehfglfbnjdcoaaOpF
import Derived.Test.YtehfglfbnjdcoaaOut
import Derived.Test.YtehfglfbnjdcoaaPush
import Derived.WalkKit
import Derived.Deep.DeepMust
namespace Go.Proofs.Ytehfglfbnjdcoaa
open Go.RowKit
set_option maxRecDepth 100000

/-- two slices of numbers, one behind the other in memory, and a bool -/
def Back2 (b : Bool) (w : World) (ys gs : List Int) (e : Ending) (w' : World) : Prop :=
  ∃ v u mid, e = .returned (.tuple #[v, u, .bool b]) ∧ w.heap.size ≤ mid ∧ mid ≤ w'.heap.size ∧ OwI w' w.heap.size mid v ys ∧ OwI w' mid w'.heap.size u gs ∧ Below w.heap.size w w'
/-- .. wherever they lie -/
def Back2w (b : Bool) (w : World) (ys gs : List Int) (e : Ending) (w' : World) : Prop :=
  ∃ v u, e = .returned (.tuple #[v, u, .bool b]) ∧ OwI w' w.heap.size w'.heap.size v ys ∧ OwI w' w.heap.size w'.heap.size u gs ∧ Below w.heap.size w w'
theorem Back2.weak {b : Bool} {w : World} {ys gs : List Int} {e : Ending} {w' : World} (h : Back2 b w ys gs e w') : Back2w b w ys gs e w' := by
  obtain ⟨v, u, mid, he, h1, h2, hv, hu, hb⟩ := h
  exact ⟨v, u, he, hv.more (Nat.le_refl _) h2, hu.more h1 (Nat.le_refl _), hb⟩
theorem back2w_empty {w w1 : World} (hb : Below w.heap.size w w1) : Back2w false w [] [] (.returned (.tuple #[.slice (some ⟨w1.heap.size, 0, none⟩) 0 0, .slice (some ⟨w1.heap.size + 1, 0, none⟩) 0 0, .bool false])) ((w1.alloc (.cells #[] 3)).alloc (.cells #[] 3)) := by
  have h1 : Below w1.heap.size w1 (w1.alloc (.cells #[] 3)) := (Below.refl _ _).alloc (Nat.le_refl _) _
  have h2 : Below (w1.alloc (.cells #[] 3)).heap.size (w1.alloc (.cells #[] 3)) ((w1.alloc (.cells #[] 3)).alloc (.cells #[] 3)) := (Below.refl _ _).alloc (Nat.le_refl _) _
  have o1 := OI.of_own (e := 3) (n := 0) (xs := []) (World.ownsRow_lit w1 #[] 0 (Nat.le_refl _) (by decide) rfl)
  have o2 := OI.of_own (e := 3) (n := 0) (xs := []) (World.ownsRow_lit (w1.alloc (.cells #[] 3)) #[] 0 (Nat.le_refl _) (by decide) rfl)
  refine ⟨_, _, rfl, (o1.below h2).more hb.size h2.size, ?_, hb.trans ((h1.trans (h2.mono h1.size)).mono hb.size)⟩
  have e : (w1.alloc (.cells #[] 3)).heap.size = w1.heap.size + 1 := by simp
  rw [e] at o2
  exact o2.more (by have := hb.size; omega) (Nat.le_refl _)

set_option maxHeartbeats 8000000 in
theorem impl_OpBackward {B n cap B' n' c' B'' n'' c'' : Nat} {A A' A'' : Option Addr} {p xs ds : List Int} (k i o : Int) (w : World) (h : RI w B A n cap p) (h' : RI w B' A' n' c' xs) (h'' : RI w B'' A'' n'' c'' ds) (hB : B ≤ w.heap.size) (hB' : B' ≤ w.heap.size) (hB'' : B'' ≤ w.heap.size) (hn : n ≤ 1048576) (hn' : n' ≤ 1048576) (hn'' : n'' ≤ 1048576) :
    Calls Try.prog 38 #[Opv k i o A n cap, .slice A' n' c', .slice A'' n'' c''] w (Back2 (bwS ⟨k, i, o, p⟩ xs ds) w (bw ⟨k, i, o, p⟩ xs ds) (bwG ⟨k, i, o, p⟩ xs ds)) := by
  obtain ⟨wb, hwb⟩ : ∃ wb, wb = w.alloc (.cells #[.int .i64 k, .int .i64 i, .int .i64 o, .slice A n cap] 52) := ⟨_, rfl⟩
  have hb0 : Below w.heap.size w wb := hwb ▸ (Below.refl _ _).alloc (Nat.le_refl _) _
  have x0 : wb.cell? ⟨w.heap.size, 0, none⟩ = some (.int .i64 k) := by rw [hwb]; simp
  have x1 : wb.cell? ⟨w.heap.size, 1, none⟩ = some (.int .i64 i) := by rw [hwb]; simp
  have x2 : wb.cell? ⟨w.heap.size, 2, none⟩ = some (.int .i64 o) := by rw [hwb]; simp
  have x3 : wb.cell? ⟨w.heap.size, 3, none⟩ = some (.slice A n cap) := by rw [hwb]; simp
  have hsb := hb0.size
  have HOK := hide (impl_OpOk k i o wb (h.below (hb0.mono hB)) (by omega) hn)
  have HP := hide (fun (W : World) (hW : Below w.heap.size w W) => h.below (hW.mono hB))
  have HX := hide (fun (W : World) (hW : Below w.heap.size w W) => h'.below (hW.mono hB'))
  have HD := hide (fun (W : World) (hW : Below w.heap.size w W) => h''.below (hW.mono hB''))
  have HN := hide hn
  have HN' := hide hn'
  have HN'' := hide hn''
  have HB := hide hB
  have HB' := hide hB'
  have HB'' := hide hB''
  have HL := hide h'.1
  have HL'' := hide h''.1
  have HLP := hide h.1
  have HV := hide (fun (W : World) (hW : Below w.heap.size w W) => impl_vecOf i W (h'.below (hW.mono hB')) hn')
  have HV2 := hide (fun (W : World) (hW : Below w.heap.size w W) => impl_vecOf o W (h''.below (hW.mono hB'')) hn'')
  have HW := hide hwb
  clear hwb h h' h'' hn hn' hn'' hB hB' hB''
  by_cases hok : okO k i o p = true
  case neg =>
    have hof : okO k i o p = false := by simpa using hok
    have HF := hide (bw_no (d := ⟨k, i, o, p⟩) (xs := xs) (ds := ds) (by rw [bwOk, fwOk, okOd, hof]; rfl))
    rw [hof] at HOK
    clear hok hof
    go_enter Try.func38, Try.ntmps38
    go_wp2_with fail
    rw [← HW.out]
    refine HOK.out.mono ?_
    rintro e w1 ⟨rfl, hb1⟩
    replace x0 := cellB hb1 x0
    replace x1 := cellB hb1 x1
    replace x2 := cellB hb1 x2
    replace x3 := cellB hb1 x3
    have hbw := hb0.trans (hb1.mono hsb)
    clear hb1
    go_wp2_with fail
    go_ret3
    rw [HF.out.1, HF.out.2.1, HF.out.2.2]
    exact ⟨_, _, w.heap.size, rfl, Nat.le_refl _, hbw.size, OI.nil _ _ _ _, OI.nil _ _ _ _, hbw⟩
  rw [hok] at HOK
  by_cases hv : (okV xs && decide ((xs.length : Int) = i)) = true
  case neg =>
    have hvf : (okV xs && decide ((xs.length : Int) = i)) = false := by simpa using hv
    have HF := hide (bw_no (d := ⟨k, i, o, p⟩) (xs := xs) (ds := ds) (by rw [bwOk, fwOk, Bool.and_assoc (okOd _), hvf, Bool.and_false]; rfl))
    rw [hvf] at HV
    clear hok hv hvf
    go_enter Try.func38, Try.ntmps38
    go_wp2_with fail
    rw [← HW.out]
    refine HOK.out.mono ?_
    rintro e w1 ⟨rfl, hb1⟩
    replace x0 := cellB hb1 x0
    replace x1 := cellB hb1 x1
    replace x2 := cellB hb1 x2
    replace x3 := cellB hb1 x3
    have hbw := hb0.trans (hb1.mono hsb)
    clear hb1
    go_wp2_with fail
    refine (HV.out _ hbw).mono ?_
    rintro e w' ⟨rfl, rfl⟩
    go_wp2_with fail
    go_ret3
    rw [HF.out.1, HF.out.2.1, HF.out.2.2]
    exact ⟨_, _, w.heap.size, rfl, Nat.le_refl _, hbw.size, OI.nil _ _ _ _, OI.nil _ _ _ _, hbw⟩
  rw [hv] at HV
  have hf : fwOk ⟨k, i, o, p⟩ xs = true := by rw [fwOk, Bool.and_assoc, hv, okOd, hok]; rfl
  clear hv
  by_cases hv : (okV ds && decide ((ds.length : Int) = o)) = true
  case neg =>
    have hvf : (okV ds && decide ((ds.length : Int) = o)) = false := by simpa using hv
    have HF := hide (bw_no (d := ⟨k, i, o, p⟩) (xs := xs) (ds := ds) (by rw [bwOk, Bool.and_assoc, hvf, Bool.and_false]))
    rw [hvf] at HV2
    clear hok hv hvf hf
    go_enter Try.func38, Try.ntmps38
    go_wp2_with fail
    rw [← HW.out]
    refine HOK.out.mono ?_
    rintro e w1 ⟨rfl, hb1⟩
    replace x0 := cellB hb1 x0
    replace x1 := cellB hb1 x1
    replace x2 := cellB hb1 x2
    replace x3 := cellB hb1 x3
    have hbw := hb0.trans (hb1.mono hsb)
    clear hb1
    go_wp2_with fail
    refine (HV.out _ hbw).mono ?_
    rintro e w' ⟨rfl, rfl⟩
    go_wp2_with fail
    refine (HV2.out _ hbw).mono ?_
    rintro e w' ⟨rfl, rfl⟩
    go_wp2_with fail
    go_ret3
    rw [HF.out.1, HF.out.2.1, HF.out.2.2]
    exact ⟨_, _, w.heap.size, rfl, Nat.le_refl _, hbw.size, OI.nil _ _ _ _, OI.nil _ _ _ _, hbw⟩
  rw [hv] at HV2
  have hf2 : bwOk ⟨k, i, o, p⟩ xs ds = true := by rw [bwOk, Bool.and_assoc, hv, hf]; rfl
  clear hv hf
  have hsp := okOd_spec (d := ⟨k, i, o, p⟩) hok
  have HY := hide (bw_yes hf2)
  have hkk : k = 1 ∨ k = 2 ∨ k = 3 ∨ k = 4 ∨ k = 5 := by have hk1 : 1 ≤ k := hsp.1; have hk2 : k ≤ 5 := hsp.2.1; omega
  clear hok hf2
  rcases hkk with rfl | rfl | rfl | rfl | rfl
  · clear hsp
    obtain ⟨fb, hfb⟩ : ∃ fb, mBackS o i p ds = fb := ⟨_, rfl⟩
    have HMB := hide (fun (W : World) (hW : Below w.heap.size w W) => impl_MatBack o i W (HP.out W hW) (HD.out W hW) (by have := hW.size; have := HB.out; omega) (by have := hW.size; have := HB''.out; omega) HN.out HN''.out)
    rw [hfb] at HMB
    have HFB := hide hfb
    have HS := hide (show bwS ⟨1, i, o, p⟩ xs ds = (fb || mOutS ds xs) from by rw [HY.out.2.2, ← HFB.out]; rfl)
    have HG := hide (show bwG ⟨1, i, o, p⟩ xs ds = mOut ds xs from HY.out.2.1)
    have HV0 := hide (show bw ⟨1, i, o, p⟩ xs ds = mBack o i p ds from HY.out.1)
    rw [HS.out, HG.out, HV0.out]
    clear hfb
    cases fb
    · go_enter Try.func38, Try.ntmps38
      go_wp2_with fail
      rw [← HW.out]
      refine HOK.out.mono ?_
      rintro e w1 ⟨rfl, hb1⟩
      replace x0 := cellB hb1 x0
      replace x1 := cellB hb1 x1
      replace x2 := cellB hb1 x2
      replace x3 := cellB hb1 x3
      have hbw := hb0.trans (hb1.mono hsb)
      clear hb1
      go_wp2_with fail
      refine (HV.out _ hbw).mono ?_
      rintro e w' ⟨rfl, rfl⟩
      go_wp2_with fail
      refine (HV2.out _ hbw).mono ?_
      rintro e w' ⟨rfl, rfl⟩
      go_wp2_with fail
      refine (impl_matOf _ _ _ _ _ _ w1).mono ?_
      rintro e w2 ⟨rfl, hb2⟩
      have hbw2 := hbw.trans (hb2.mono hbw.size)
      replace x0 := cellB hb2 x0
      replace x3 := cellB hb2 x3
      clear hb2
      go_wp2_with fail
      refine (HMB.out w2 hbw2).mono ?_
      rintro e w3 ⟨v, rfl, hq⟩
      obtain ⟨A3, n3, c3, rfl, hO3, hb3⟩ := newI hq
      have hbw3 := hbw2.trans (hb3.mono hbw2.size)
      have hs3 := hb3.size
      replace x0 := cellB hb3 x0
      have H3 := hide hO3
      clear hq hO3 hb3
      go_wp2_with fail
      refine (impl_Outer w3 (HD.out _ hbw3) (HX.out _ hbw3) (by have := hbw3.size; have := HB''.out; omega) (by have := hbw3.size; have := HB'.out; omega) HN''.out HN'.out).mono ?_
      rintro e w4 ⟨A4, n4, c4, rfl, hO4, hb4⟩
      have hbw4 := hbw3.trans (hb4.mono hbw3.size)
      have hs4 := hb4.size
      replace x0 := cellB hb4 x0
      have H34 := hide (H3.out.below hb4)
      have H4 := hide hO4
      clear hO4 hb4
      have hba : Below w4.heap.size w4 (w4.alloc (.cells #[.int .i64 (mOutR ds xs), .int .i64 (mOutC ds xs), .slice A4 n4 c4] 113)) := (Below.refl _ _).alloc (Nat.le_refl _) _
      have HU := hide (H4.out.below hba)
      have HVV := hide (H34.out.below hba)
      have HBA := hide (hbw4.trans (hba.mono hbw4.size))
      have hsa := hba.size
      clear hba
      have x0a := fun q => cellB ((Below.refl _ _).alloc (Nat.le_refl _) q) x0
      go_wp2_with fail
      go_quiet (fail)
      go_wp2_with fail
      go_ret3
      exact ⟨_, _, w3.heap.size, rfl, by have := hbw3.size; omega, by show w3.heap.size ≤ ((w4.alloc (.cells #[.int .i64 (mOutR ds xs), .int .i64 (mOutC ds xs), .slice A4 n4 c4] 113))).heap.size; omega, HVV.out.more (by have := hbw2.size; omega) (Nat.le_refl _), HU.out.more (Nat.le_refl _) (by show _ ≤ ((w4.alloc (.cells #[.int .i64 (mOutR ds xs), .int .i64 (mOutC ds xs), .slice A4 n4 c4] 113))).heap.size; omega), below_drewN HBA.out _⟩
    · go_enter Try.func38, Try.ntmps38
      go_wp2_with fail
      rw [← HW.out]
      refine HOK.out.mono ?_
      rintro e w1 ⟨rfl, hb1⟩
      replace x0 := cellB hb1 x0
      replace x1 := cellB hb1 x1
      replace x2 := cellB hb1 x2
      replace x3 := cellB hb1 x3
      have hbw := hb0.trans (hb1.mono hsb)
      clear hb1
      go_wp2_with fail
      refine (HV.out _ hbw).mono ?_
      rintro e w' ⟨rfl, rfl⟩
      go_wp2_with fail
      refine (HV2.out _ hbw).mono ?_
      rintro e w' ⟨rfl, rfl⟩
      go_wp2_with fail
      refine (impl_matOf _ _ _ _ _ _ w1).mono ?_
      rintro e w2 ⟨rfl, hb2⟩
      have hbw2 := hbw.trans (hb2.mono hbw.size)
      replace x0 := cellB hb2 x0
      replace x3 := cellB hb2 x3
      clear hb2
      go_wp2_with fail
      refine (HMB.out w2 hbw2).mono ?_
      rintro e w3 ⟨v, rfl, hq⟩
      obtain ⟨A3, n3, c3, rfl, hO3, hb3⟩ := newI hq
      have hbw3 := hbw2.trans (hb3.mono hbw2.size)
      have hs3 := hb3.size
      replace x0 := cellB hb3 x0
      have H3 := hide hO3
      clear hq hO3 hb3
      go_wp2_with fail
      refine (impl_Outer w3 (HD.out _ hbw3) (HX.out _ hbw3) (by have := hbw3.size; have := HB''.out; omega) (by have := hbw3.size; have := HB'.out; omega) HN''.out HN'.out).mono ?_
      rintro e w4 ⟨A4, n4, c4, rfl, hO4, hb4⟩
      have hbw4 := hbw3.trans (hb4.mono hbw3.size)
      have hs4 := hb4.size
      replace x0 := cellB hb4 x0
      have H34 := hide (H3.out.below hb4)
      have H4 := hide hO4
      clear hO4 hb4
      have hba : Below w4.heap.size w4 (w4.alloc (.cells #[.int .i64 (mOutR ds xs), .int .i64 (mOutC ds xs), .slice A4 n4 c4] 113)) := (Below.refl _ _).alloc (Nat.le_refl _) _
      have HU := hide (H4.out.below hba)
      have HVV := hide (H34.out.below hba)
      have HBA := hide (hbw4.trans (hba.mono hbw4.size))
      have hsa := hba.size
      clear hba
      have x0a := fun q => cellB ((Below.refl _ _).alloc (Nat.le_refl _) q) x0
      go_wp2_with fail
      go_quiet (fail)
      go_wp2_with fail
      go_ret3
      exact ⟨_, _, w3.heap.size, rfl, by have := hbw3.size; omega, by show w3.heap.size ≤ ((w4.alloc (.cells #[.int .i64 (mOutR ds xs), .int .i64 (mOutC ds xs), .slice A4 n4 c4] 113))).heap.size; omega, HVV.out.more (by have := hbw2.size; omega) (Nat.le_refl _), HU.out.more (Nat.le_refl _) (by show _ ≤ ((w4.alloc (.cells #[.int .i64 (mOutR ds xs), .int .i64 (mOutC ds xs), .slice A4 n4 c4] 113))).heap.size; omega), below_drewN HBA.out _⟩
  · clear hsp
    have HS := hide (show bwS ⟨2, i, o, p⟩ xs ds = false from HY.out.2.2)
    have HG := hide (show bwG ⟨2, i, o, p⟩ xs ds = ds from HY.out.2.1)
    have HV0 := hide (show bw ⟨2, i, o, p⟩ xs ds = ds from HY.out.1)
    rw [HS.out, HG.out, HV0.out]
    go_enter Try.func38, Try.ntmps38
    go_wp2_with fail
    rw [← HW.out]
    refine HOK.out.mono ?_
    rintro e w1 ⟨rfl, hb1⟩
    replace x0 := cellB hb1 x0
    replace x1 := cellB hb1 x1
    replace x2 := cellB hb1 x2
    replace x3 := cellB hb1 x3
    have hbw := hb0.trans (hb1.mono hsb)
    clear hb1
    go_wp2_with fail
    refine (HV.out _ hbw).mono ?_
    rintro e w' ⟨rfl, rfl⟩
    go_wp2_with fail
    refine (HV2.out _ hbw).mono ?_
    rintro e w' ⟨rfl, rfl⟩
    go_wp2_with fail
    refine (impl_copyInts w1 (HD.out _ hbw) (by have := hbw.size; have := HB''.out; omega) HN''.out).mono ?_
    rintro e w2 ⟨v, rfl, hq⟩
    obtain ⟨A3, n3, c3, rfl, hO3, hb3⟩ := newI hq
    have hbw2 := hbw.trans (hb3.mono hbw.size)
    have hs3 := hb3.size
    have H3 := hide hO3
    clear hq hO3 hb3
    go_wp2_with fail
    refine (impl_copyInts w2 (HD.out _ hbw2) (by have := hbw2.size; have := HB''.out; omega) HN''.out).mono ?_
    rintro e w3 ⟨v, rfl, hq⟩
    obtain ⟨A4, n4, c4, rfl, hO4, hb4⟩ := newI hq
    have hbw3 := hbw2.trans (hb4.mono hbw2.size)
    have H34 := hide (H3.out.below hb4)
    have H4 := hide hO4
    have hs4 := hb4.size
    clear hq hO4 hb4
    go_wp2_with fail
    go_ret3
    exact ⟨_, _, w2.heap.size, rfl, hbw2.size, hs4, H34.out.more hbw.size (Nat.le_refl _), H4.out, hbw3⟩
  · clear hsp
    have HS := hide (show bwS ⟨3, i, o, p⟩ xs ds = false from HY.out.2.2)
    have HG := hide (show bwG ⟨3, i, o, p⟩ xs ds = [] from HY.out.2.1)
    have HV0 := hide (show bw ⟨3, i, o, p⟩ xs ds = vMask xs ds from HY.out.1)
    rw [HS.out, HG.out, HV0.out]
    go_enter Try.func38, Try.ntmps38
    go_wp2_with fail
    rw [← HW.out]
    refine HOK.out.mono ?_
    rintro e w1 ⟨rfl, hb1⟩
    replace x0 := cellB hb1 x0
    replace x1 := cellB hb1 x1
    replace x2 := cellB hb1 x2
    replace x3 := cellB hb1 x3
    have hbw := hb0.trans (hb1.mono hsb)
    clear hb1
    go_wp2_with fail
    refine (HV.out _ hbw).mono ?_
    rintro e w' ⟨rfl, rfl⟩
    go_wp2_with fail
    refine (HV2.out _ hbw).mono ?_
    rintro e w' ⟨rfl, rfl⟩
    go_wp2_with fail
    refine (impl_VecMask w1 (HX.out _ hbw) (HD.out _ hbw) (by have := hbw.size; have := HB'.out; omega) (by have := hbw.size; have := HB''.out; omega) HN'.out HN''.out).mono ?_
    rintro e w2 ⟨v, rfl, hq⟩
    obtain ⟨A3, n3, c3, rfl, hO3, hb3⟩ := newI hq
    have hbw2 := hbw.trans (hb3.mono hbw.size)
    have hs3 := hb3.size
    have H3 := hide hO3
    clear hq hO3 hb3
    go_wp2_with fail
    go_ret3
    exact ⟨_, _, w2.heap.size, rfl, hbw2.size, Nat.le_refl _, H3.out.more hbw.size (Nat.le_refl _), OI.nil _ _ _ _, hbw2⟩
  · have hn1 : n = 1 := by
      have h1 : (p.length : Int) = opSize 4 i o := hsp.2.2.2.2.2.2.2.1
      have h2 : opSize 4 i o = 1 := by
        rw [opSize, if_pos ⟨hsp.2.2.1, hsp.2.2.2.1, hsp.2.2.2.2.1, hsp.2.2.2.2.2.1⟩]; simp
      rw [h2] at h1
      have := HLP.out
      omega
    subst hn1
    obtain ⟨b, off, rfl, hbB, hc⟩ := (HP.out wb hb0).at_ (show 0 < 1 by omega)
    rw [Nat.add_zero] at hc
    obtain ⟨c0, hc0⟩ : ∃ c0, p.getD 0 0 = c0 := ⟨_, rfl⟩
    rw [hc0] at hc
    have HC := hide hc0
    have h01 : (0 : Int) ≤ 0 := by omega
    have h02 : (0 : Int) < ((1 : Nat) : Int) := by omega
    obtain ⟨fb, hfb⟩ : ∃ fb, vScaleS c0 ds = fb := ⟨_, rfl⟩
    have HVS := hide (fun (W : World) (hW : Below w.heap.size w W) => impl_VecScale c0 W (HD.out W hW) (by have := hW.size; have := HB''.out; omega) HN''.out)
    rw [hfb] at HVS
    have HFB := hide hfb
    have HS := hide (show bwS ⟨4, i, o, p⟩ xs ds = (fb || vDotS ds xs) from by rw [HY.out.2.2, ← HFB.out, ← HC.out]; rfl)
    have HG := hide (show bwG ⟨4, i, o, p⟩ xs ds = [vDot ds xs] from HY.out.2.1)
    have HV0 := hide (show bw ⟨4, i, o, p⟩ xs ds = vScale c0 ds from by rw [HY.out.1, ← HC.out]; rfl)
    rw [HS.out, HG.out, HV0.out]
    clear hsp hc0 hfb
    cases fb
    · go_enter Try.func38, Try.ntmps38
      go_wp2_with fail
      rw [← HW.out]
      refine HOK.out.mono ?_
      rintro e w1 ⟨rfl, hb1⟩
      replace x0 := cellB hb1 x0
      replace x1 := cellB hb1 x1
      replace x2 := cellB hb1 x2
      replace x3 := cellB hb1 x3
      replace hc := cellB hb1 hc
      have hbw := hb0.trans (hb1.mono hsb)
      clear hb1
      go_wp2_with fail
      refine (HV.out _ hbw).mono ?_
      rintro e w' ⟨rfl, rfl⟩
      go_wp2_with fail
      refine (HV2.out _ hbw).mono ?_
      rintro e w' ⟨rfl, rfl⟩
      go_wp2_with fail
      refine (HVS.out w1 hbw).mono ?_
      rintro e w2 ⟨v, rfl, hq⟩
      obtain ⟨A3, n3, c3, rfl, hO3, hb3⟩ := newI hq
      have hbw2 := hbw.trans (hb3.mono hbw.size)
      have hs3 := hb3.size
      have H3 := hide hO3
      clear hq hO3 hb3
      go_wp2_with fail
      refine (impl_VecDot w2 (HD.out _ hbw2) (HX.out _ hbw2) HN''.out HN'.out).mono ?_
      rintro e w' ⟨rfl, mq, rfl⟩
      have hba : Below w2.heap.size w2 (w2.alloc (.cells #[.int .i64 (vDot ds xs)] 3)) := (Below.refl _ _).alloc (Nat.le_refl _) _
      have HU := hide (OI.of_own (e := 3) (n := 1) (xs := [vDot ds xs]) (World.ownsRow_lit w2 #[.int .i64 (vDot ds xs)] 1 (Nat.le_refl _) (by decide) rfl))
      have HVV := hide (H3.out.below hba)
      have HBA := hide (hbw2.trans (hba.mono hbw2.size))
      have hsa := hide hba.size
      clear hba
      go_wp2_with fail
      go_ret3
      exact ⟨_, _, w2.heap.size, rfl, hbw2.size, hsa.out, HVV.out.more hbw.size (Nat.le_refl _), HU.out, below_drewN HBA.out _⟩
    · go_enter Try.func38, Try.ntmps38
      go_wp2_with fail
      rw [← HW.out]
      refine HOK.out.mono ?_
      rintro e w1 ⟨rfl, hb1⟩
      replace x0 := cellB hb1 x0
      replace x1 := cellB hb1 x1
      replace x2 := cellB hb1 x2
      replace x3 := cellB hb1 x3
      replace hc := cellB hb1 hc
      have hbw := hb0.trans (hb1.mono hsb)
      clear hb1
      go_wp2_with fail
      refine (HV.out _ hbw).mono ?_
      rintro e w' ⟨rfl, rfl⟩
      go_wp2_with fail
      refine (HV2.out _ hbw).mono ?_
      rintro e w' ⟨rfl, rfl⟩
      go_wp2_with fail
      refine (HVS.out w1 hbw).mono ?_
      rintro e w2 ⟨v, rfl, hq⟩
      obtain ⟨A3, n3, c3, rfl, hO3, hb3⟩ := newI hq
      have hbw2 := hbw.trans (hb3.mono hbw.size)
      have hs3 := hb3.size
      have H3 := hide hO3
      clear hq hO3 hb3
      go_wp2_with fail
      refine (impl_VecDot w2 (HD.out _ hbw2) (HX.out _ hbw2) HN''.out HN'.out).mono ?_
      rintro e w' ⟨rfl, mq, rfl⟩
      have hba : Below w2.heap.size w2 (w2.alloc (.cells #[.int .i64 (vDot ds xs)] 3)) := (Below.refl _ _).alloc (Nat.le_refl _) _
      have HU := hide (OI.of_own (e := 3) (n := 1) (xs := [vDot ds xs]) (World.ownsRow_lit w2 #[.int .i64 (vDot ds xs)] 1 (Nat.le_refl _) (by decide) rfl))
      have HVV := hide (H3.out.below hba)
      have HBA := hide (hbw2.trans (hba.mono hbw2.size))
      have hsa := hide hba.size
      clear hba
      go_wp2_with fail
      go_ret3
      exact ⟨_, _, w2.heap.size, rfl, hbw2.size, hsa.out, HVV.out.more hbw.size (Nat.le_refl _), HU.out, below_drewN HBA.out _⟩
  · clear hsp
    obtain ⟨fb, hfb⟩ : ∃ fb, mBackS o i p ds = fb := ⟨_, rfl⟩
    obtain ⟨fa, hfa⟩ : ∃ fa, vAddS ds (mBack o i p ds) = fa := ⟨_, rfl⟩
    obtain ⟨fo, hfo⟩ : ∃ fo, mOutS ds xs = fo := ⟨_, rfl⟩
    have HMB := hide (fun (W : World) (hW : Below w.heap.size w W) => impl_MatBack o i W (HP.out W hW) (HD.out W hW) (by have := hW.size; have := HB.out; omega) (by have := hW.size; have := HB''.out; omega) HN.out HN''.out)
    have HVA := hide (fun (W : World) (hW : Below w.heap.size w W) (A3 : Option Addr) (n3 c3 : Nat) (h3 : RI W W.heap.size A3 n3 c3 (mBack o i p ds)) => impl_VecAdd W (HD.out W hW) h3 (by have := hW.size; have := HB''.out; omega) (Nat.le_refl _) HN''.out (by rw [← h3.1]; have := mBack_len o i p ds; omega))
    have HOU := hide (fun (W : World) (hW : Below w.heap.size w W) => impl_Outer W (HD.out W hW) (HX.out W hW) (by have := hW.size; have := HB''.out; omega) (by have := hW.size; have := HB'.out; omega) HN''.out HN'.out)
    rw [hfb] at HMB
    rw [hfa] at HVA
    rw [hfo] at HOU
    have HFB := hide hfb
    have HFA := hide hfa
    have HFO := hide hfo
    have HS := hide (show bwS ⟨5, i, o, p⟩ xs ds = (fb || fa || fo) from by rw [HY.out.2.2, ← HFB.out, ← HFA.out, ← HFO.out]; rfl)
    have HG := hide (show bwG ⟨5, i, o, p⟩ xs ds = mOut ds xs from HY.out.2.1)
    have HV0 := hide (show bw ⟨5, i, o, p⟩ xs ds = vAdd ds (mBack o i p ds) from HY.out.1)
    rw [HS.out, HG.out, HV0.out]
    clear hfb hfa hfo
    cases fb <;> cases fa <;> cases fo
    all_goals
      go_enter Try.func38, Try.ntmps38
      go_wp2_with fail
      rw [← HW.out]
      refine HOK.out.mono ?_
      rintro e w1 ⟨rfl, hb1⟩
      replace x0 := cellB hb1 x0
      replace x1 := cellB hb1 x1
      replace x2 := cellB hb1 x2
      replace x3 := cellB hb1 x3
      have hbw := hb0.trans (hb1.mono hsb)
      clear hb1
      go_wp2_with fail
      refine (HV.out _ hbw).mono ?_
      rintro e w' ⟨rfl, rfl⟩
      go_wp2_with fail
      refine (HV2.out _ hbw).mono ?_
      rintro e w' ⟨rfl, rfl⟩
      go_wp2_with fail
      refine (impl_matOf _ _ _ _ _ _ w1).mono ?_
      rintro e w2 ⟨rfl, hb2⟩
      have hbw2 := hbw.trans (hb2.mono hbw.size)
      replace x0 := cellB hb2 x0
      replace x3 := cellB hb2 x3
      clear hb2
      go_wp2_with fail
      refine (HMB.out w2 hbw2).mono ?_
      rintro e w3 ⟨v, rfl, hq⟩
      obtain ⟨A3, n3, c3, rfl, hO3, hb3⟩ := newI hq
      have hbw3 := hbw2.trans (hb3.mono hbw2.size)
      have hs3 := hb3.size
      replace x0 := cellB hb3 x0
      have H3 := hide hO3.ri
      clear hq hO3 hb3
      go_wp2_with fail
      refine (HVA.out w3 hbw3 _ _ _ H3.out).mono ?_
      rintro e w4 ⟨v, rfl, hq⟩
      obtain ⟨A5, n5, c5, rfl, hO5, hb5⟩ := newI hq
      have hbw4 := hbw3.trans (hb5.mono hbw3.size)
      have hs5 := hb5.size
      replace x0 := cellB hb5 x0
      have H5 := hide hO5
      clear hq hO5 hb5
      go_wp2_with fail
      refine (HOU.out w4 hbw4).mono ?_
      rintro e w5 ⟨A4, n4, c4, rfl, hO4, hb4⟩
      have hbw5 := hbw4.trans (hb4.mono hbw4.size)
      have hs4 := hb4.size
      have H54 := hide (H5.out.below hb4)
      have H4 := hide hO4
      have hba : Below w5.heap.size w5 (w5.alloc (.cells #[.int .i64 (mOutR ds xs), .int .i64 (mOutC ds xs), .slice A4 n4 c4] 113)) := (Below.refl _ _).alloc (Nat.le_refl _) _
      have HU := hide (H4.out.below hba)
      have HVV := hide (H54.out.below hba)
      have HBA := hide (hbw5.trans (hba.mono hbw5.size))
      have hsa := hba.size
      clear hba hO4 hb4
      go_wp2_with fail
      go_quiet (fail)
      go_wp2_with fail
      go_ret3
      exact ⟨_, _, w4.heap.size, rfl, hbw4.size, by show _ ≤ ((w5.alloc (.cells #[.int .i64 (mOutR ds xs), .int .i64 (mOutC ds xs), .slice A4 n4 c4] 113))).heap.size; omega, HVV.out.more hbw3.size (Nat.le_refl _), HU.out.more (Nat.le_refl _) (by show _ ≤ ((w5.alloc (.cells #[.int .i64 (mOutR ds xs), .int .i64 (mOutC ds xs), .slice A4 n4 c4] 113))).heap.size; omega), below_drewN HBA.out _⟩
set_option maxHeartbeats 8000000 in
theorem spec_OpBackward {B n cap B' n' c' B'' n'' c'' : Nat} {A A' A'' : Option Addr} {p xs ds : List Int} (k i o : Int) (w : World) (h : RI w B A n cap p) (h' : RI w B' A' n' c' xs) (h'' : RI w B'' A'' n'' c'' ds) (hB : B ≤ w.heap.size) (hB' : B' ≤ w.heap.size) (hB'' : B'' ≤ w.heap.size) (hn : n ≤ 1048576) (hn' : n' ≤ 1048576) (hn'' : n'' ≤ 1048576) :
    Calls Try.prog 37 #[Opv k i o A n cap, .slice A' n' c', .slice A'' n'' c''] w (Back2w (bwS ⟨k, i, o, p⟩ xs ds) w (bw ⟨k, i, o, p⟩ xs ds) (bwG ⟨k, i, o, p⟩ xs ds)) := by
  obtain ⟨wb, hwb⟩ : ∃ wb, wb = w.alloc (.cells #[.int .i64 k, .int .i64 i, .int .i64 o, .slice A n cap] 52) := ⟨_, rfl⟩
  have hb0 : Below w.heap.size w wb := hwb ▸ (Below.refl _ _).alloc (Nat.le_refl _) _
  have x0 : wb.cell? ⟨w.heap.size, 0, none⟩ = some (.int .i64 k) := by rw [hwb]; simp
  have x1 : wb.cell? ⟨w.heap.size, 1, none⟩ = some (.int .i64 i) := by rw [hwb]; simp
  have x2 : wb.cell? ⟨w.heap.size, 2, none⟩ = some (.int .i64 o) := by rw [hwb]; simp
  have x3 : wb.cell? ⟨w.heap.size, 3, none⟩ = some (.slice A n cap) := by rw [hwb]; simp
  have hsb := hb0.size
  have HOK := hide (spec_OpOk k i o wb (h.below (hb0.mono hB)) (by omega) hn)
  have HP := hide (fun (W : World) (hW : Below w.heap.size w W) => h.below (hW.mono hB))
  have HX := hide (fun (W : World) (hW : Below w.heap.size w W) => h'.below (hW.mono hB'))
  have HD := hide (fun (W : World) (hW : Below w.heap.size w W) => h''.below (hW.mono hB''))
  have HN := hide hn
  have HN' := hide hn'
  have HN'' := hide hn''
  have HB := hide hB
  have HB' := hide hB'
  have HB'' := hide hB''
  have HL := hide h'.1
  have HL'' := hide h''.1
  have HLP := hide h.1
  have HV := hide (fun (W : World) (hW : Below w.heap.size w W) => spec_VecOk W (h'.below (hW.mono hB')) hn')
  have HV2 := hide (fun (W : World) (hW : Below w.heap.size w W) => spec_VecOk W (h''.below (hW.mono hB'')) hn'')
  have HW := hide hwb
  clear hwb h h' h'' hn hn' hn'' hB hB' hB''
  by_cases hok : okO k i o p = true
  case neg =>
    have hof : okO k i o p = false := by simpa using hok
    have HF := hide (bw_no (d := ⟨k, i, o, p⟩) (xs := xs) (ds := ds) (by rw [bwOk, fwOk, okOd, hof]; rfl))
    rw [hof] at HOK
    clear hok hof
    go_enter Try.func37, Try.ntmps37
    go_wp2_with fail
    rw [← HW.out]
    refine HOK.out.mono ?_
    rintro e w1 ⟨rfl, hb1⟩
    replace x0 := cellB hb1 x0
    replace x1 := cellB hb1 x1
    replace x2 := cellB hb1 x2
    replace x3 := cellB hb1 x3
    have hbw := hb0.trans (hb1.mono hsb)
    clear hb1
    go_wp2_with fail
    go_ret3
    rw [HF.out.1, HF.out.2.1, HF.out.2.2]
    exact back2w_empty hbw
  rw [hok] at HOK
  by_cases hv : okV xs = true
  case neg =>
    have hvf : okV xs = false := by simpa using hv
    have HF := hide (bw_no (d := ⟨k, i, o, p⟩) (xs := xs) (ds := ds) (by rw [bwOk, fwOk, hvf, Bool.and_false]; rfl))
    rw [hvf] at HV
    clear hok hv hvf
    go_enter Try.func37, Try.ntmps37
    go_wp2_with fail
    rw [← HW.out]
    refine HOK.out.mono ?_
    rintro e w1 ⟨rfl, hb1⟩
    replace x0 := cellB hb1 x0
    replace x1 := cellB hb1 x1
    replace x2 := cellB hb1 x2
    replace x3 := cellB hb1 x3
    have hbw := hb0.trans (hb1.mono hsb)
    clear hb1
    go_wp2_with fail
    refine (HV.out _ hbw).mono ?_
    rintro e w' ⟨rfl, rfl⟩
    go_wp2_with fail
    go_ret3
    rw [HF.out.1, HF.out.2.1, HF.out.2.2]
    exact back2w_empty hbw
  rw [hv] at HV
  by_cases hl : (n' : Int) = i
  case neg =>
    have HF := hide (bw_no (d := ⟨k, i, o, p⟩) (xs := xs) (ds := ds) (by rw [bwOk, fwOk, HL.out, decide_eq_false hl, Bool.and_false]; rfl))
    have hne : ((n' : Int) != i) = true := by simpa using hl
    clear hok hv hl
    go_enter Try.func37, Try.ntmps37
    go_wp2_with fail
    rw [← HW.out]
    refine HOK.out.mono ?_
    rintro e w1 ⟨rfl, hb1⟩
    replace x0 := cellB hb1 x0
    replace x1 := cellB hb1 x1
    replace x2 := cellB hb1 x2
    replace x3 := cellB hb1 x3
    have hbw := hb0.trans (hb1.mono hsb)
    clear hb1
    go_wp2_with fail
    refine (HV.out _ hbw).mono ?_
    rintro e w' ⟨rfl, rfl⟩
    go_wp2_with fail
    go_ret3
    rw [HF.out.1, HF.out.2.1, HF.out.2.2]
    exact back2w_empty hbw
  have hf : fwOk ⟨k, i, o, p⟩ xs = true := by rw [fwOk, hv, okOd, hok, HL.out, decide_eq_true hl]; rfl
  have hne : ((n' : Int) != i) = false := by simp [hl]
  clear hv hl
  by_cases hv : okV ds = true
  case neg =>
    have hvf : okV ds = false := by simpa using hv
    have HF := hide (bw_no (d := ⟨k, i, o, p⟩) (xs := xs) (ds := ds) (by rw [bwOk, hvf, Bool.and_false]; rfl))
    rw [hvf] at HV2
    clear hok hv hvf hf
    go_enter Try.func37, Try.ntmps37
    go_wp2_with fail
    rw [← HW.out]
    refine HOK.out.mono ?_
    rintro e w1 ⟨rfl, hb1⟩
    replace x0 := cellB hb1 x0
    replace x1 := cellB hb1 x1
    replace x2 := cellB hb1 x2
    replace x3 := cellB hb1 x3
    have hbw := hb0.trans (hb1.mono hsb)
    clear hb1
    go_wp2_with fail
    refine (HV.out _ hbw).mono ?_
    rintro e w' ⟨rfl, rfl⟩
    go_wp2_with fail
    refine (HV2.out _ hbw).mono ?_
    rintro e w' ⟨rfl, rfl⟩
    go_wp2_with fail
    go_ret3
    rw [HF.out.1, HF.out.2.1, HF.out.2.2]
    exact back2w_empty hbw
  rw [hv] at HV2
  by_cases hl : (n'' : Int) = o
  case neg =>
    have HF := hide (bw_no (d := ⟨k, i, o, p⟩) (xs := xs) (ds := ds) (by rw [bwOk, HL''.out, decide_eq_false hl, Bool.and_false]))
    have hne2 : ((n'' : Int) != o) = true := by simpa using hl
    clear hok hv hl hf
    go_enter Try.func37, Try.ntmps37
    go_wp2_with fail
    rw [← HW.out]
    refine HOK.out.mono ?_
    rintro e w1 ⟨rfl, hb1⟩
    replace x0 := cellB hb1 x0
    replace x1 := cellB hb1 x1
    replace x2 := cellB hb1 x2
    replace x3 := cellB hb1 x3
    have hbw := hb0.trans (hb1.mono hsb)
    clear hb1
    go_wp2_with fail
    refine (HV.out _ hbw).mono ?_
    rintro e w' ⟨rfl, rfl⟩
    go_wp2_with fail
    refine (HV2.out _ hbw).mono ?_
    rintro e w' ⟨rfl, rfl⟩
    go_wp2_with fail
    go_ret3
    rw [HF.out.1, HF.out.2.1, HF.out.2.2]
    exact back2w_empty hbw
  have hf2 : bwOk ⟨k, i, o, p⟩ xs ds = true := by rw [bwOk, hv, hf, HL''.out, decide_eq_true hl]; rfl
  have hne2 : ((n'' : Int) != o) = false := by simp [hl]
  clear hv hl hf
  have hsp := okOd_spec (d := ⟨k, i, o, p⟩) hok
  have HY := hide (bw_yes hf2)
  have hkk : k = 1 ∨ k = 2 ∨ k = 3 ∨ k = 4 ∨ k = 5 := by have hk1 : 1 ≤ k := hsp.1; have hk2 : k ≤ 5 := hsp.2.1; omega
  clear hok hf2
  rcases hkk with rfl | rfl | rfl | rfl | rfl
  · clear hsp
    obtain ⟨fb, hfb⟩ : ∃ fb, mBackS o i p ds = fb := ⟨_, rfl⟩
    have HMB := hide (fun (W : World) (hW : Below w.heap.size w W) => spec_MatBack o i W (HP.out W hW) (HD.out W hW) (by have := hW.size; have := HB.out; omega) (by have := hW.size; have := HB''.out; omega) HN.out HN''.out)
    rw [hfb] at HMB
    have HFB := hide hfb
    have HS := hide (show bwS ⟨1, i, o, p⟩ xs ds = (fb || mOutS ds xs) from by rw [HY.out.2.2, ← HFB.out]; rfl)
    have HG := hide (show bwG ⟨1, i, o, p⟩ xs ds = mOut ds xs from HY.out.2.1)
    have HV0 := hide (show bw ⟨1, i, o, p⟩ xs ds = mBack o i p ds from HY.out.1)
    rw [HS.out, HG.out, HV0.out]
    clear hfb
    cases fb
    · go_enter Try.func37, Try.ntmps37
      go_wp2_with fail
      rw [← HW.out]
      refine HOK.out.mono ?_
      rintro e w1 ⟨rfl, hb1⟩
      replace x0 := cellB hb1 x0
      replace x1 := cellB hb1 x1
      replace x2 := cellB hb1 x2
      replace x3 := cellB hb1 x3
      have hbw := hb0.trans (hb1.mono hsb)
      clear hb1
      go_wp2_with fail
      refine (HV.out _ hbw).mono ?_
      rintro e w' ⟨rfl, rfl⟩
      go_wp2_with fail
      refine (HV2.out _ hbw).mono ?_
      rintro e w' ⟨rfl, rfl⟩
      go_wp2_with fail
      refine (spec_l5Mat _ _ _ _ _ _ w1).mono ?_
      rintro e w2 ⟨rfl, hb2⟩
      have hbw2 := hbw.trans (hb2.mono hbw.size)
      replace x0 := cellB hb2 x0
      replace x3 := cellB hb2 x3
      clear hb2
      go_wp2_with fail
      refine (HMB.out w2 hbw2).mono ?_
      rintro e w3 ⟨v, rfl, hq⟩
      obtain ⟨A3, n3, c3, rfl, hO3, hb3⟩ := newI hq
      have hbw3 := hbw2.trans (hb3.mono hbw2.size)
      have hs3 := hb3.size
      replace x0 := cellB hb3 x0
      have H3 := hide hO3
      clear hq hO3 hb3
      go_wp2_with fail
      refine (spec_Outer w3 (HD.out _ hbw3) (HX.out _ hbw3) (by have := hbw3.size; have := HB''.out; omega) (by have := hbw3.size; have := HB'.out; omega) HN''.out HN'.out).mono ?_
      rintro e w4 ⟨A4, n4, c4, rfl, hO4, hb4⟩
      have hbw4 := hbw3.trans (hb4.mono hbw3.size)
      have hs4 := hb4.size
      replace x0 := cellB hb4 x0
      have H34 := hide (H3.out.below hb4)
      have H4 := hide hO4
      clear hO4 hb4
      have hba : Below w4.heap.size w4 (w4.alloc (.cells #[.int .i64 (mOutR ds xs), .int .i64 (mOutC ds xs), .slice A4 n4 c4] 113)) := (Below.refl _ _).alloc (Nat.le_refl _) _
      have HU := hide (H4.out.below hba)
      have HVV := hide (H34.out.below hba)
      have HBA := hide (hbw4.trans (hba.mono hbw4.size))
      have hsa := hba.size
      clear hba
      have x0a := fun q => cellB ((Below.refl _ _).alloc (Nat.le_refl _) q) x0
      go_wp2_with fail
      go_quiet (fail)
      go_wp2_with fail
      go_ret3
      exact ⟨_, _, rfl, HVV.out.more (by have := hbw2.size; omega) (by show _ ≤ ((w4.alloc (.cells #[.int .i64 (mOutR ds xs), .int .i64 (mOutC ds xs), .slice A4 n4 c4] 113))).heap.size; omega), HU.out.more (by have := hbw3.size; omega) (by show _ ≤ ((w4.alloc (.cells #[.int .i64 (mOutR ds xs), .int .i64 (mOutC ds xs), .slice A4 n4 c4] 113))).heap.size; omega), below_drewN HBA.out _⟩
    · go_enter Try.func37, Try.ntmps37
      go_wp2_with fail
      rw [← HW.out]
      refine HOK.out.mono ?_
      rintro e w1 ⟨rfl, hb1⟩
      replace x0 := cellB hb1 x0
      replace x1 := cellB hb1 x1
      replace x2 := cellB hb1 x2
      replace x3 := cellB hb1 x3
      have hbw := hb0.trans (hb1.mono hsb)
      clear hb1
      go_wp2_with fail
      refine (HV.out _ hbw).mono ?_
      rintro e w' ⟨rfl, rfl⟩
      go_wp2_with fail
      refine (HV2.out _ hbw).mono ?_
      rintro e w' ⟨rfl, rfl⟩
      go_wp2_with fail
      refine (spec_l5Mat _ _ _ _ _ _ w1).mono ?_
      rintro e w2 ⟨rfl, hb2⟩
      have hbw2 := hbw.trans (hb2.mono hbw.size)
      replace x0 := cellB hb2 x0
      replace x3 := cellB hb2 x3
      clear hb2
      go_wp2_with fail
      refine (HMB.out w2 hbw2).mono ?_
      rintro e w3 ⟨v, rfl, hq⟩
      obtain ⟨A3, n3, c3, rfl, hO3, hb3⟩ := newI hq
      have hbw3 := hbw2.trans (hb3.mono hbw2.size)
      have hs3 := hb3.size
      replace x0 := cellB hb3 x0
      have H3 := hide hO3
      clear hq hO3 hb3
      go_wp2_with fail
      refine (spec_Outer w3 (HD.out _ hbw3) (HX.out _ hbw3) (by have := hbw3.size; have := HB''.out; omega) (by have := hbw3.size; have := HB'.out; omega) HN''.out HN'.out).mono ?_
      rintro e w4 ⟨A4, n4, c4, rfl, hO4, hb4⟩
      have hbw4 := hbw3.trans (hb4.mono hbw3.size)
      have hs4 := hb4.size
      replace x0 := cellB hb4 x0
      have H34 := hide (H3.out.below hb4)
      have H4 := hide hO4
      clear hO4 hb4
      have hba : Below w4.heap.size w4 (w4.alloc (.cells #[.int .i64 (mOutR ds xs), .int .i64 (mOutC ds xs), .slice A4 n4 c4] 113)) := (Below.refl _ _).alloc (Nat.le_refl _) _
      have HU := hide (H4.out.below hba)
      have HVV := hide (H34.out.below hba)
      have HBA := hide (hbw4.trans (hba.mono hbw4.size))
      have hsa := hba.size
      clear hba
      have x0a := fun q => cellB ((Below.refl _ _).alloc (Nat.le_refl _) q) x0
      go_wp2_with fail
      go_quiet (fail)
      go_wp2_with fail
      go_ret3
      exact ⟨_, _, rfl, HVV.out.more (by have := hbw2.size; omega) (by show _ ≤ ((w4.alloc (.cells #[.int .i64 (mOutR ds xs), .int .i64 (mOutC ds xs), .slice A4 n4 c4] 113))).heap.size; omega), HU.out.more (by have := hbw3.size; omega) (by show _ ≤ ((w4.alloc (.cells #[.int .i64 (mOutR ds xs), .int .i64 (mOutC ds xs), .slice A4 n4 c4] 113))).heap.size; omega), below_drewN HBA.out _⟩
  · clear hsp
    have HS := hide (show bwS ⟨2, i, o, p⟩ xs ds = false from HY.out.2.2)
    have HG := hide (show bwG ⟨2, i, o, p⟩ xs ds = ds from HY.out.2.1)
    have HV0 := hide (show bw ⟨2, i, o, p⟩ xs ds = ds from HY.out.1)
    rw [HS.out, HG.out, HV0.out]
    have gate0 : True := trivial
    go_enter Try.func37, Try.ntmps37
    go_wp2_with fail
    rw [← HW.out]
    refine HOK.out.mono ?_
    rintro e w1 ⟨rfl, hb1⟩
    replace x0 := cellB hb1 x0
    replace x1 := cellB hb1 x1
    replace x2 := cellB hb1 x2
    replace x3 := cellB hb1 x3
    have hbw := hb0.trans (hb1.mono hsb)
    clear hb1
    go_wp2_with fail
    refine (HV.out _ hbw).mono ?_
    rintro e w' ⟨rfl, rfl⟩
    go_wp2_with fail
    refine (HV2.out _ hbw).mono ?_
    rintro e w' ⟨rfl, rfl⟩
    have hd1 := HD.out _ hbw
    have hz1 : B'' ≤ w1.heap.size := (by have := hbw.size; have := HB''.out; omega)
    have hz2 : n'' ≤ 1048576 := HN''.out
    have G1 := hide hd1
    clear hd1
    go_wp2_with (first
      | (at_builtin; clear gate0; go_must (refine wpList_copy w1 rfl (.tmp 52) (.tmp 53) _ rfl 3 _ Try.underlying25 int_info rfl rfl rfl G1.out hz1 hz2 ?_); intro A3 n3 c3 w2 hO3 hb3; have hs3 := hb3.size; have hbw2 := hbw.trans (hb3.mono hbw.size); have H3 := hide hO3; have G2 := hide (HD.out _ hbw2); have hz3 : B'' ≤ w2.heap.size := Nat.le_trans hz1 hs3; clear hO3 hb3)
      | (at_builtin; go_must (refine wpList_copy w2 rfl (.tmp 55) (.tmp 56) _ rfl 3 _ Try.underlying25 int_info rfl rfl rfl G2.out hz3 hz2 ?_); intro A4 n4 c4 w3 hO4 hb4; have hs4 := hb4.size; have hbw3 := hbw2.trans (hb4.mono hbw2.size); have H34 := hide (H3.out.below hb4); have H4 := hide hO4; clear hO4 hb4))
    go_ret3
    exact ⟨_, _, rfl, H34.out.more hbw.size hs4, H4.out.more hbw2.size (Nat.le_refl _), hbw3⟩
  · clear hsp
    have HS := hide (show bwS ⟨3, i, o, p⟩ xs ds = false from HY.out.2.2)
    have HG := hide (show bwG ⟨3, i, o, p⟩ xs ds = [] from HY.out.2.1)
    have HV0 := hide (show bw ⟨3, i, o, p⟩ xs ds = vMask xs ds from HY.out.1)
    rw [HS.out, HG.out, HV0.out]
    go_enter Try.func37, Try.ntmps37
    go_wp2_with fail
    rw [← HW.out]
    refine HOK.out.mono ?_
    rintro e w1 ⟨rfl, hb1⟩
    replace x0 := cellB hb1 x0
    replace x1 := cellB hb1 x1
    replace x2 := cellB hb1 x2
    replace x3 := cellB hb1 x3
    have hbw := hb0.trans (hb1.mono hsb)
    clear hb1
    go_wp2_with fail
    refine (HV.out _ hbw).mono ?_
    rintro e w' ⟨rfl, rfl⟩
    go_wp2_with fail
    refine (HV2.out _ hbw).mono ?_
    rintro e w' ⟨rfl, rfl⟩
    go_wp2_with fail
    refine (spec_VecMask w1 (HX.out _ hbw) (HD.out _ hbw) (by have := hbw.size; have := HB'.out; omega) (by have := hbw.size; have := HB''.out; omega) HN'.out HN''.out).mono ?_
    rintro e w2 ⟨v, rfl, hq⟩
    obtain ⟨A3, n3, c3, rfl, hO3, hb3⟩ := newI hq
    have hbw2 := hbw.trans (hb3.mono hbw.size)
    have hs3 := hb3.size
    have H3 := hide hO3
    clear hq hO3 hb3
    go_wp2_with fail
    go_ret3
    have hba : Below w2.heap.size w2 (w2.alloc (.cells #[] 3)) := (Below.refl _ _).alloc (Nat.le_refl _) _
    exact ⟨_, _, rfl, (H3.out.below hba).more hbw.size hba.size, (OI.of_own (n := 0) (xs := []) (World.ownsRow_lit w2 #[] 0 (Nat.le_refl _) (by decide) rfl)).more hbw2.size (Nat.le_refl _), hbw2.trans (hba.mono hbw2.size)⟩
  · have hn1 : n = 1 := by
      have h1 : (p.length : Int) = opSize 4 i o := hsp.2.2.2.2.2.2.2.1
      have h2 : opSize 4 i o = 1 := by
        rw [opSize, if_pos ⟨hsp.2.2.1, hsp.2.2.2.1, hsp.2.2.2.2.1, hsp.2.2.2.2.2.1⟩]; simp
      rw [h2] at h1
      have := HLP.out
      omega
    subst hn1
    obtain ⟨b, off, rfl, hbB, hc⟩ := (HP.out wb hb0).at_ (show 0 < 1 by omega)
    rw [Nat.add_zero] at hc
    obtain ⟨c0, hc0⟩ : ∃ c0, p.getD 0 0 = c0 := ⟨_, rfl⟩
    rw [hc0] at hc
    have HC := hide hc0
    have h01 : (0 : Int) ≤ 0 := by omega
    have h02 : (0 : Int) < ((1 : Nat) : Int) := by omega
    obtain ⟨fb, hfb⟩ : ∃ fb, vScaleS c0 ds = fb := ⟨_, rfl⟩
    have HVS := hide (fun (W : World) (hW : Below w.heap.size w W) => spec_VecScale c0 W (HD.out W hW) (by have := hW.size; have := HB''.out; omega) HN''.out)
    rw [hfb] at HVS
    have HFB := hide hfb
    have HS := hide (show bwS ⟨4, i, o, p⟩ xs ds = (fb || vDotS ds xs) from by rw [HY.out.2.2, ← HFB.out, ← HC.out]; rfl)
    have HG := hide (show bwG ⟨4, i, o, p⟩ xs ds = [vDot ds xs] from HY.out.2.1)
    have HV0 := hide (show bw ⟨4, i, o, p⟩ xs ds = vScale c0 ds from by rw [HY.out.1, ← HC.out]; rfl)
    rw [HS.out, HG.out, HV0.out]
    clear hsp hc0 hfb
    cases fb
    · go_enter Try.func37, Try.ntmps37
      go_wp2_with fail
      rw [← HW.out]
      refine HOK.out.mono ?_
      rintro e w1 ⟨rfl, hb1⟩
      replace x0 := cellB hb1 x0
      replace x1 := cellB hb1 x1
      replace x2 := cellB hb1 x2
      replace x3 := cellB hb1 x3
      replace hc := cellB hb1 hc
      have hbw := hb0.trans (hb1.mono hsb)
      clear hb1
      go_wp2_with fail
      refine (HV.out _ hbw).mono ?_
      rintro e w' ⟨rfl, rfl⟩
      go_wp2_with fail
      refine (HV2.out _ hbw).mono ?_
      rintro e w' ⟨rfl, rfl⟩
      go_wp2_with fail
      refine (HVS.out w1 hbw).mono ?_
      rintro e w2 ⟨v, rfl, hq⟩
      obtain ⟨A3, n3, c3, rfl, hO3, hb3⟩ := newI hq
      have hbw2 := hbw.trans (hb3.mono hbw.size)
      have hs3 := hb3.size
      have H3 := hide hO3
      clear hq hO3 hb3
      go_wp2_with fail
      refine (spec_VecDot w2 (HD.out _ hbw2) (HX.out _ hbw2) HN''.out HN'.out).mono ?_
      rintro e w' ⟨rfl, mq, rfl⟩
      have hba : Below w2.heap.size w2 (w2.alloc (.cells #[.int .i64 (vDot ds xs)] 3)) := (Below.refl _ _).alloc (Nat.le_refl _) _
      have HU := hide (OI.of_own (e := 3) (n := 1) (xs := [vDot ds xs]) (World.ownsRow_lit w2 #[.int .i64 (vDot ds xs)] 1 (Nat.le_refl _) (by decide) rfl))
      have HVV := hide (H3.out.below hba)
      have HBA := hide (hbw2.trans (hba.mono hbw2.size))
      have hsa := hide hba.size
      clear hba
      go_wp2_with fail
      go_ret3
      exact ⟨_, _, rfl, HVV.out.more hbw.size hsa.out, HU.out.more hbw2.size (Nat.le_refl _), below_drewN HBA.out _⟩
    · go_enter Try.func37, Try.ntmps37
      go_wp2_with fail
      rw [← HW.out]
      refine HOK.out.mono ?_
      rintro e w1 ⟨rfl, hb1⟩
      replace x0 := cellB hb1 x0
      replace x1 := cellB hb1 x1
      replace x2 := cellB hb1 x2
      replace x3 := cellB hb1 x3
      replace hc := cellB hb1 hc
      have hbw := hb0.trans (hb1.mono hsb)
      clear hb1
      go_wp2_with fail
      refine (HV.out _ hbw).mono ?_
      rintro e w' ⟨rfl, rfl⟩
      go_wp2_with fail
      refine (HV2.out _ hbw).mono ?_
      rintro e w' ⟨rfl, rfl⟩
      go_wp2_with fail
      refine (HVS.out w1 hbw).mono ?_
      rintro e w2 ⟨v, rfl, hq⟩
      obtain ⟨A3, n3, c3, rfl, hO3, hb3⟩ := newI hq
      have hbw2 := hbw.trans (hb3.mono hbw.size)
      have hs3 := hb3.size
      have H3 := hide hO3
      clear hq hO3 hb3
      go_wp2_with fail
      refine (spec_VecDot w2 (HD.out _ hbw2) (HX.out _ hbw2) HN''.out HN'.out).mono ?_
      rintro e w' ⟨rfl, mq, rfl⟩
      have hba : Below w2.heap.size w2 (w2.alloc (.cells #[.int .i64 (vDot ds xs)] 3)) := (Below.refl _ _).alloc (Nat.le_refl _) _
      have HU := hide (OI.of_own (e := 3) (n := 1) (xs := [vDot ds xs]) (World.ownsRow_lit w2 #[.int .i64 (vDot ds xs)] 1 (Nat.le_refl _) (by decide) rfl))
      have HVV := hide (H3.out.below hba)
      have HBA := hide (hbw2.trans (hba.mono hbw2.size))
      have hsa := hide hba.size
      clear hba
      go_wp2_with fail
      go_ret3
      exact ⟨_, _, rfl, HVV.out.more hbw.size hsa.out, HU.out.more hbw2.size (Nat.le_refl _), below_drewN HBA.out _⟩
  · clear hsp
    obtain ⟨fb, hfb⟩ : ∃ fb, mBackS o i p ds = fb := ⟨_, rfl⟩
    obtain ⟨fa, hfa⟩ : ∃ fa, vAddS ds (mBack o i p ds) = fa := ⟨_, rfl⟩
    obtain ⟨fo, hfo⟩ : ∃ fo, mOutS ds xs = fo := ⟨_, rfl⟩
    have HMB := hide (fun (W : World) (hW : Below w.heap.size w W) => spec_MatBack o i W (HP.out W hW) (HD.out W hW) (by have := hW.size; have := HB.out; omega) (by have := hW.size; have := HB''.out; omega) HN.out HN''.out)
    have HVA := hide (fun (W : World) (hW : Below w.heap.size w W) (A3 : Option Addr) (n3 c3 : Nat) (h3 : RI W W.heap.size A3 n3 c3 (mBack o i p ds)) => spec_VecAdd W (HD.out W hW) h3 (by have := hW.size; have := HB''.out; omega) (Nat.le_refl _) HN''.out (by rw [← h3.1]; have := mBack_len o i p ds; omega))
    have HOU := hide (fun (W : World) (hW : Below w.heap.size w W) => spec_Outer W (HD.out W hW) (HX.out W hW) (by have := hW.size; have := HB''.out; omega) (by have := hW.size; have := HB'.out; omega) HN''.out HN'.out)
    rw [hfb] at HMB
    rw [hfa] at HVA
    rw [hfo] at HOU
    have HFB := hide hfb
    have HFA := hide hfa
    have HFO := hide hfo
    have HS := hide (show bwS ⟨5, i, o, p⟩ xs ds = (fb || fa || fo) from by rw [HY.out.2.2, ← HFB.out, ← HFA.out, ← HFO.out]; rfl)
    have HG := hide (show bwG ⟨5, i, o, p⟩ xs ds = mOut ds xs from HY.out.2.1)
    have HV0 := hide (show bw ⟨5, i, o, p⟩ xs ds = vAdd ds (mBack o i p ds) from HY.out.1)
    rw [HS.out, HG.out, HV0.out]
    clear hfb hfa hfo
    cases fb <;> cases fa <;> cases fo
    all_goals
      go_enter Try.func37, Try.ntmps37
      go_wp2_with fail
      rw [← HW.out]
      refine HOK.out.mono ?_
      rintro e w1 ⟨rfl, hb1⟩
      replace x0 := cellB hb1 x0
      replace x1 := cellB hb1 x1
      replace x2 := cellB hb1 x2
      replace x3 := cellB hb1 x3
      have hbw := hb0.trans (hb1.mono hsb)
      clear hb1
      go_wp2_with fail
      refine (HV.out _ hbw).mono ?_
      rintro e w' ⟨rfl, rfl⟩
      go_wp2_with fail
      refine (HV2.out _ hbw).mono ?_
      rintro e w' ⟨rfl, rfl⟩
      go_wp2_with fail
      refine (spec_l5Mat _ _ _ _ _ _ w1).mono ?_
      rintro e w2 ⟨rfl, hb2⟩
      have hbw2 := hbw.trans (hb2.mono hbw.size)
      replace x0 := cellB hb2 x0
      replace x3 := cellB hb2 x3
      clear hb2
      go_wp2_with fail
      refine (HMB.out w2 hbw2).mono ?_
      rintro e w3 ⟨v, rfl, hq⟩
      obtain ⟨A3, n3, c3, rfl, hO3, hb3⟩ := newI hq
      have hbw3 := hbw2.trans (hb3.mono hbw2.size)
      have hs3 := hb3.size
      replace x0 := cellB hb3 x0
      have H3 := hide hO3
      clear hq hO3 hb3
      go_wp2_with fail
      refine (HOU.out w3 hbw3).mono ?_
      rintro e w4 ⟨A4, n4, c4, rfl, hO4, hb4⟩
      have hbw4 := hbw3.trans (hb4.mono hbw3.size)
      have hs4 := hb4.size
      replace x0 := cellB hb4 x0
      have x0a := fun q => cellB ((Below.refl _ _).alloc (Nat.le_refl _) q) x0
      have H34 := hide ((H3.out.below hb4).ri.more hs4)
      have H4 := hide hO4
      clear hO4 hb4
      go_wp2_with fail
      obtain ⟨wq, hwq⟩ : ∃ wq, wq = (w4.alloc (.cells #[.int .i64 (mOutR ds xs), .int .i64 (mOutC ds xs), .slice A4 n4 c4] 113)) := ⟨_, rfl⟩
      have hba : Below w4.heap.size w4 wq := hwq ▸ (Below.refl _ _).alloc (Nat.le_refl _) _
      have y2 : wq.cell? ⟨w4.heap.size, 2, none⟩ = some (.slice A4 n4 c4) := by rw [hwq]; simp
      have HU := hide (H4.out.below hba)
      have hbwq := hbw4.trans (hba.mono hbw4.size)
      have hsa := hba.size
      have H3q := hide ((H34.out.below hba).more hsa)
      rw [← hwq]
      clear hba hwq x0a
      refine (HVA.out wq hbwq _ _ _ H3q.out).mono ?_
      rintro e w6 ⟨v, rfl, hq⟩
      obtain ⟨A5, n5, c5, rfl, hO5, hb5⟩ := newI hq
      have hbw6 := hbwq.trans (hb5.mono hbwq.size)
      have hs5 := hb5.size
      replace y2 := cellB hb5 y2
      have HUU := hide (HU.out.below hb5)
      have H5 := hide hO5
      clear hq hO5 hb5
      go_wp2_with fail
      go_quiet (fail)
      go_wp2_with fail
      go_ret3
      exact ⟨_, _, rfl, H5.out.more hbwq.size (Nat.le_refl _), HUU.out.more (by have := hbw3.size; omega) (by show _ ≤ w6.heap.size; omega), below_drewN hbw6 _⟩
end Go.Proofs.Ytehfglfbnjdcoaa
