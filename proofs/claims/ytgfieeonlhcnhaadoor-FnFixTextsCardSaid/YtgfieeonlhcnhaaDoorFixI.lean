/-
  impl.ReadFix
-/
import Derived.Test.YtgfieeonlhcnhaaDoorRdI
import Derived.Test.YtgfieeonlhcnhaaDoorShow
import Derived.Test.YtgfieeonlhcnhaaDoorPlainK
import Derived.Lib.CutLaws
import Derived.WalkKit
namespace Go.Proofs.YtgfieeonlhcnhaaDoor
open Go.RowKit
set_option maxRecDepth 100000
theorem impl_rd (s : ByteArray) (hs : s.size ≤ 1048576) : ∃ (a : Int) (x : Bool), -999999999 ≤ a ∧ a ≤ 999999999 ∧ Hid (rdec s.data.toList = if x = true then some a else none) ∧
    Hid (∀ w, Tab w → Errs w → Calls Tryd.prog 18 #[.string s] w fun e w' => e = .returned (.tuple #[.int .i64 a, .bool x]) ∧ Below w.heap.size w w') := by
  cases h : rdec s.data.toList with
  | none => exact ⟨0, false, by omega, by omega, rfl, fun w hT hE => by have := impl_ReadDec s hs w hT hE; rw [rdecV_none h] at this; exact this⟩
  | some a => exact ⟨a, true, (rdec_some h).2.1, (rdec_some h).2.2, rfl, fun w hT hE => by have := impl_ReadDec s hs w hT hE; rw [rdecV_some h] at this; exact this⟩
theorem impl_shw (n : Int) (g0 : -9223372036854775808 ≤ n) (g1 : n ≤ 9223372036854775807) : ∃ x : ByteArray, Hid (showS n = x) ∧
    Hid (∀ w, Tab w → Calls Tryd.prog 11 #[.int .i64 n] w fun e w' => e = .returned (.string x) ∧ Below w.heap.size w w') := ⟨_, rfl, fun w hT => impl_ShowFix n g0 g1 w hT⟩
theorem ne_list2 {x s : ByteArray} (h : ¬ x = s) : (x.toList == s.toList) = false := by
  rw [beq_eq_false_iff_ne]
  intro e
  exact h (ByteArray.ext (by simpa [Go.ByteArray.toList_eq] using e))
/-- the sign is cut off -/
theorem cutp (s : ByteArray) : ∃ (t : ByteArray) (neg : Bool), Bod s t neg ∧ Hid (∀ w, Calls Tryd.prog 33 #[.string s, .string ⟨#[45]⟩] w fun e w' => e = .returned (.tuple #[.string t, .bool neg]) ∧ w' = w) := by
  have hC := fun w => Tryd.strings_CutPrefix s ⟨#[45]⟩ w
  by_cases hz : ∃ h : 0 < s.size, s[0] = 45
  · obtain ⟨hz, hc⟩ := hz
    refine ⟨_, true, bod_neg s hz hc, fun w => ?_⟩
    have hh := head_at s hz
    rw [hc] at hh
    obtain ⟨r, hr⟩ : ∃ r, s.data.toList = 45 :: r := by
      cases h : s.data.toList with
      | nil => rw [h] at hh; cases hh
      | cons c r => rw [h] at hh; injection hh with hh; exact ⟨r, by rw [hh]⟩
    have hp : Lib.hasPrefix s.data.toList [45] = true := by rw [hr]; simp [Lib.hasPrefix]
    have ht : (⟨(Lib.trimPrefix s.data.toList [45]).toArray⟩ : ByteArray) = s.extract 1 s.size := by
      rw [Lib.trimPrefix, if_pos hp, hr]
      apply ByteArray.ext
      apply Array.toList_inj.1
      have e := Lib.extract_toList s 1 s.size
      rw [Go.ByteArray.toList_eq] at e
      have hz2 : s.size = r.length + 1 := by rw [Lib.size_eq, hr]; rfl
      rw [e, hr, hz2]
      simp
    have := hC w
    rw [show (⟨#[45]⟩ : ByteArray).data.toList = [45] from rfl, ht, hp] at this
    exact this
  · have hn : s.size = 0 ∨ ∃ h : 0 < s.size, s[0] ≠ 45 := by
      by_cases h : 0 < s.size
      · exact Or.inr ⟨h, fun e => hz ⟨h, e⟩⟩
      · exact Or.inl (by omega)
    refine ⟨s, false, bod_pos s hn, fun w => ?_⟩
    have hp : Lib.hasPrefix s.data.toList [45] = false := by
      rw [Bool.eq_false_iff]
      intro hp
      cases h : s.data.toList with
      | nil => rw [h] at hp; cases hp
      | cons c r =>
        rw [h] at hp
        have hc : c = 45 := by
          have : (45 == c) = true := by simpa [Lib.hasPrefix] using hp
          exact (beq_iff_eq.1 this).symm
        have h0 : 0 < s.size := by rw [Lib.size_eq, h]; simp
        have hh := head_at s h0
        rw [h] at hh
        injection hh with hh
        exact hz ⟨h0, by rw [← hh, hc]⟩
    have ht : (⟨(Lib.trimPrefix s.data.toList [45]).toArray⟩ : ByteArray) = s := by
      rw [Lib.trimPrefix, if_neg (by rw [hp]; simp)]
    have := hC w
    rw [show (⟨#[45]⟩ : ByteArray).data.toList = [45] from rfl, ht, hp] at this
    exact this
/-- cut at the plus -/
theorem cut_lite (t : ByteArray) (ht : t.size ≤ 1048576) (w : World) : ∃ (x y : ByteArray) (f : Bool), (wholeOf t.data.toList = x.data.toList ∧ restOf t.data.toList = y.data.toList) ∧ x.size ≤ 1048576 ∧ y.size ≤ 1048576 ∧
    Calls Tryd.prog 49 #[.string t, .string ⟨#[43]⟩] w fun e w' => e = .returned (.tuple #[.string x, .string y, .bool f]) ∧ ∃ n, w' = w.drewN n := by
  rcases Int.lt_or_eq_of_le (Lib.indexByte_ge t.data.toList 43) with hi | hi
  · obtain ⟨i, hi⟩ : ∃ i : Nat, Lib.indexByte t.data.toList 43 = i := ⟨(Lib.indexByte t.data.toList 43).toNat, by omega⟩
    obtain ⟨h1, h2⟩ := Lib.indexByte_some hi
    have hit : i < t.size := by
      rcases Nat.lt_or_ge i t.size with h | h
      · exact h
      · rw [List.getElem?_eq_none (by simpa using h)] at h1; cases h1
    have hc : t[i] = 43 := by rw [at_byte t i hit] at h1; injection h1
    refine ⟨t.extract 0 i, t.extract (i + 1) t.size, true, cut_at hit hc h2, by simp; omega, by simp; omega, ?_⟩
    have HI := hide (Tryd.stringslite_Index_one t 43 w)
    have HJ := hide hi
    clear h1 h2 hc hi
    have c0 : (0 : Int) ≤ (i : Int) := by omega
    have c1 : (i : Int) ≤ (t.size : Int) := by omega
    have c2 : (i : Int) + 1 ≤ (t.size : Int) := by omega
    have c3 : (0 : Int) ≤ (i : Int) + 1 := by omega
    have c4 : IntKind.i64.wrap ((i : Int) + 1) = (i : Int) + 1 := by rw [IntKind.wrap_i64]; omega
    go_enter Tryd.func49, Tryd.ntmps49
    go_wp2_with fail
    refine HI.out.mono ?_
    rintro e w1 ⟨rfl, rfl⟩
    rw [HJ.out]
    go_wp2_with fail
    go_quiet (fail)
    go_wp2_with fail
    go_ret3
    exact ⟨rfl, _, rfl⟩
  · have hn := Lib.indexByte_none hi.symm
    refine ⟨t, ByteArray.empty, false, cut_not (fun j _ => hn j), ht, by simp, ?_⟩
    have HI := hide (Tryd.stringslite_Index_one t 43 w)
    have HJ := hide hi.symm
    clear hn hi
    go_enter Tryd.func49, Tryd.ntmps49
    go_wp2_with fail
    refine HI.out.mono ?_
    rintro e w1 ⟨rfl, rfl⟩
    rw [HJ.out]
    go_wp2_with fail
    go_ret3
    exact ⟨rfl, 0, rfl⟩
theorem cut_plus (t : ByteArray) (ht : t.size ≤ 1048576) (w : World) : ∃ (x y : ByteArray) (f : Bool), (wholeOf t.data.toList = x.data.toList ∧ restOf t.data.toList = y.data.toList) ∧ x.size ≤ 1048576 ∧ y.size ≤ 1048576 ∧
    Hid (Calls Tryd.prog 34 #[.string t, .string ⟨#[43]⟩] w fun e w' => e = .returned (.tuple #[.string x, .string y, .bool f]) ∧ ∃ n, w' = w.drewN n) := by
  obtain ⟨x, y, f, h1, h2, h3, h4⟩ := cut_lite t ht w
  refine ⟨x, y, f, h1, h2, h3, ?_⟩
  have HI := hide h4
  clear h1 h4
  show Calls _ _ _ _ _
  go_enter Tryd.func34, Tryd.ntmps34
  go_wp2_with fail
  refine HI.out.mono ?_
  rintro e w1 ⟨rfl, n, rfl⟩
  go_wp2_with fail
  go_ret3
  exact ⟨rfl, n, rfl⟩
set_option maxHeartbeats 1000000 in
theorem impl_ReadFix (s : ByteArray) (hs : s.size ≤ 1048576) (w : World) (hT : Tab w) (hE : Errs w) :
    Calls Tryd.prog 12 #[.string s] w fun e w' => e = .returned (rfixV s.data.toList) ∧ Below w.heap.size w w' := by
  obtain ⟨t, neg, hB, CP⟩ := cutp s
  obtain ⟨V, hV⟩ : ∃ V, rfixV s.data.toList = V := ⟨_, rfl⟩
  rw [hV]
  have HV := hide hV
  have HB := hide hB
  have hts := hB.size
  clear hV hB
  obtain ⟨p, q, f, hC, hp, hq, CC⟩ := cut_plus t (by omega) w
  have HC := hide hC
  clear hC
  obtain ⟨a, x, ha0, ha1, HA, CA⟩ := impl_rd p hp
  obtain ⟨b, y, hb0, hb1, HBY, CB⟩ := impl_rd q hq
  go_enter Tryd.func12, Tryd.ntmps12
  go_wp2_with fail
  refine (CP.out w).mono ?_
  rintro e w0 ⟨rfl, h00⟩
  rw [h00]
  clear h00
  go_wp2_with fail
  refine CC.out.mono ?_
  rintro e w0 ⟨rfl, nq, rfl⟩
  obtain ⟨wb, hwb⟩ : ∃ wb, wb = w.drewN nq := ⟨_, rfl⟩
  have hw0 : Below w.heap.size w wb := by rw [hwb]; exact ⟨rfl, rfl, rfl, Nat.le_refl _, fun _ _ => rfl⟩
  rw [← hwb]
  clear hwb CC CP
  go_wp2_with fail
  refine (CA.out _ (hT.below hw0) (hE.below hw0)).mono ?_
  rintro e w1 ⟨rfl, hw1⟩
  replace hw1 := hw0.trans (hw1.mono hw0.size)
  go_wp2_with fail
  refine (CB.out _ (hT.below hw1) (hE.below hw1)).mono ?_
  rintro e w2 ⟨rfl, hw2⟩
  have hw := hw1.trans (hw2.mono hw1.size)
  have hTw := hT.below hw
  clear hw1 hw2 CA CB hw0
  cases x with
  | false =>
    have HZ := hide (HV.out.symm.trans (ans_a HB.out HC.out HA.out))
    cases y <;>
      (go_wp2_with fail
       go_ret2
       exact ⟨by rw [HZ.out]; rfl, hw⟩)
  | true =>
    cases y with
    | false =>
      have HZ := hide (HV.out.symm.trans (ans_b HB.out HC.out HBY.out))
      go_wp2_with fail
      go_ret2
      exact ⟨by rw [HZ.out]; rfl, hw⟩
    | true =>
      by_cases hbd : 0 ≤ a ∧ a ≤ 32767 ∧ 0 ≤ b ∧ b < 65536
      · cases neg with
        | true =>
          obtain ⟨X, SX, CX⟩ := impl_shw (-(a * 65536 + b)) (by omega) (by omega)
          have HF := hide (fun hX : X = s => HV.out.symm.trans (ans_yes (n := -(a * 65536 + b)) HB.out HC.out HA.out HBY.out hbd.1 hbd.2.1 hbd.2.2.1 hbd.2.2.2 (by rfl) (SX.out.trans hX)))
          have HG := hide (fun hX : ¬ X = s => HV.out.symm.trans (ans_no (n := -(a * 65536 + b)) HB.out HC.out HA.out HBY.out hbd.1 hbd.2.1 hbd.2.2.1 hbd.2.2.2 (by rfl) (fun e => hX (SX.out.symm.trans e))))
          obtain ⟨q0, q1, q2, q3⟩ := hbd
          go_wp2_with fail
          refine (CX.out _ hTw).mono ?_
          rintro e w3 ⟨rfl, hw3⟩
          have hw' := hw.trans (hw3.mono hw.size)
          by_cases hX : X = s
          · have HZ := hide (HF.out hX)
            clear HF HG SX CX
            subst hX
            go_wp2_with fail
            go_ret2
            exact ⟨by rw [HZ.out]; rfl, hw'⟩
          · have HZ := hide (HG.out hX)
            have hne := ne_list2 hX
            go_wp2_with fail
            go_ret2
            exact ⟨by rw [HZ.out]; rfl, hw'⟩
        | false =>
          obtain ⟨X, SX, CX⟩ := impl_shw (a * 65536 + b) (by omega) (by omega)
          have HF := hide (fun hX : X = s => HV.out.symm.trans (ans_yes (n := a * 65536 + b) HB.out HC.out HA.out HBY.out hbd.1 hbd.2.1 hbd.2.2.1 hbd.2.2.2 (by rfl) (SX.out.trans hX)))
          have HG := hide (fun hX : ¬ X = s => HV.out.symm.trans (ans_no (n := a * 65536 + b) HB.out HC.out HA.out HBY.out hbd.1 hbd.2.1 hbd.2.2.1 hbd.2.2.2 (by rfl) (fun e => hX (SX.out.symm.trans e))))
          obtain ⟨q0, q1, q2, q3⟩ := hbd
          go_wp2_with fail
          refine (CX.out _ hTw).mono ?_
          rintro e w3 ⟨rfl, hw3⟩
          have hw' := hw.trans (hw3.mono hw.size)
          by_cases hX : X = s
          · have HZ := hide (HF.out hX)
            clear HF HG SX CX
            subst hX
            go_wp2_with fail
            go_ret2
            exact ⟨by rw [HZ.out]; rfl, hw'⟩
          · have HZ := hide (HG.out hX)
            have hne := ne_list2 hX
            go_wp2_with fail
            go_ret2
            exact ⟨by rw [HZ.out]; rfl, hw'⟩
      · have HZ := hide (HV.out.symm.trans (ans_far HB.out HC.out HA.out HBY.out hbd))
        have hbd' : a < 0 ∨ (0 ≤ a ∧ 32767 < a) ∨ (0 ≤ a ∧ a ≤ 32767 ∧ b < 0) ∨ (0 ≤ a ∧ a ≤ 32767 ∧ 0 ≤ b ∧ 65536 ≤ b) := by omega
        clear hbd
        rcases hbd' with h | ⟨h, h'⟩ | ⟨h, h', h''⟩ | ⟨h, h', h'', h3⟩
        all_goals
          go_wp2_with fail
          go_ret2
          exact ⟨by rw [HZ.out]; rfl, hw⟩
end Go.Proofs.YtgfieeonlhcnhaaDoor
