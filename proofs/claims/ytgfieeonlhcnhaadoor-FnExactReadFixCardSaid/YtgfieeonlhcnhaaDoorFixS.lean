/-
  spec.ReadFix
-/
import Derived.Test.YtgfieeonlhcnhaaDoorRdS
import Derived.Test.YtgfieeonlhcnhaaDoorShow
import Derived.Test.YtgfieeonlhcnhaaDoorPlainK
import Derived.WalkKit
namespace Go.Proofs.YtgfieeonlhcnhaaDoor
open Go.RowKit
set_option maxRecDepth 100000
/-- what ReadDec answers, whichever -/
theorem spec_rd (s : ByteArray) (hs : s.size ≤ 1048576) : ∃ (a : Int) (x : Bool), -999999999 ≤ a ∧ a ≤ 999999999 ∧ Hid (rdec s.data.toList = if x = true then some a else none) ∧
    Hid (∀ w, Calls Tryd.prog 17 #[.string s] w fun e w' => e = .returned (.tuple #[.int .i64 a, .bool x]) ∧ Below w.heap.size w w') := by
  cases h : rdec s.data.toList with
  | none => exact ⟨0, false, by omega, by omega, rfl, fun w => by have := spec_ReadDec s hs w; rw [rdecV_none h] at this; exact this⟩
  | some a => exact ⟨a, true, (rdec_some h).2.1, (rdec_some h).2.2, rfl, fun w => by have := spec_ReadDec s hs w; rw [rdecV_some h] at this; exact this⟩
/-- ShowFix, its text under a name -/
theorem spec_shw (n : Int) (g0 : -9223372036854775808 ≤ n) (g1 : n ≤ 9223372036854775807) : ∃ x : ByteArray, Hid (showS n = x) ∧
    Hid (∀ w, Calls Tryd.prog 19 #[.int .i64 n] w fun e w' => e = .returned (.string x) ∧ Below w.heap.size w w') := ⟨_, rfl, fun w => spec_ShowFix n g0 g1 w⟩
theorem ne_list {x s : ByteArray} (h : ¬ x = s) : (x.toList == s.toList) = false := by
  rw [beq_eq_false_iff_ne]
  intro e
  exact h (ByteArray.ext (by simpa [Go.ByteArray.toList_eq] using e))
set_option maxHeartbeats 1000000 in
theorem spec_ReadFix_true (s t : ByteArray) (hs : s.size ≤ 1048576) (w : World) (hz : 0 < s.size) (hc : s[0] = 45) (ht : s.extract 1 s.size = t) (HB0 : Bod s t true) :
    Calls Tryd.prog 20 #[.string s] w fun e w' => e = .returned (rfixV s.data.toList) ∧ Below w.heap.size w w' := by
  have hts : t.size ≤ s.size := HB0.size
  obtain ⟨V, hV⟩ : ∃ V, rfixV s.data.toList = V := ⟨_, rfl⟩
  rw [hV]
  have HV := hide hV
  have HB := hide HB0
  have hlt : decide ((t.size : Int) < (s.size : Int)) = true := HB0.less
  have hlt' : (t.size : Int) < (s.size : Int) := by simpa using hlt
  clear hV HB0 hlt
  have hz' : (0 : Int) < (s.size : Int) := by omega
  have HT := hide ht
  clear ht
  go_enter Tryd.func20, Tryd.ntmps20
  go_wp2_with fail
  rw [HT.out]
  go_loop [5] (fun k => ∃ (j : Nat), k = .int .i64 (j : Int) ∧ j ≤ t.size ∧ Hid (∀ i : Nat, i < j → t.data.toList[i]? ≠ some 43))
    (fun k => t.size - (intOf k).toNat)
  case atStart => exact ⟨0, rfl, Nat.zero_le _, fun i hi => absurd hi (Nat.not_lt_zero _)⟩
  case round =>
    obtain ⟨j, rfl, hj, HJ⟩ := hrel
    by_cases hjt : j < t.size
    · have hjt' : (j : Int) < (t.size : Int) := by omega
      by_cases hp : t[j] = 43
      · have HC := hide (cut_at hjt hp HJ.out)
        clear HJ
        have hz1 : (t.extract 0 j).size ≤ 1048576 := by simp; omega
        have hz2 : (t.extract (j + 1) t.size).size ≤ 1048576 := by simp; omega
        obtain ⟨a, x, ha0, ha1, HA, CA⟩ := spec_rd (t.extract 0 j) hz1
        obtain ⟨b, y, hb0, hb1, HBY, CB⟩ := spec_rd (t.extract (j + 1) t.size) hz2
        obtain ⟨X, SX, CX⟩ := spec_shw (-(a * 65536 + b)) (by omega) (by omega)
        have hjn : ¬ (j : Int) = (t.size : Int) := by omega
        go_wp2_with fail
        refine (CA.out _).mono ?_
        rintro e w1 ⟨rfl, hw1⟩
        go_wp2_with fail
        refine (CB.out _).mono ?_
        rintro e w2 ⟨rfl, hw2⟩
        have hw := hw1.trans (hw2.mono hw1.size)
        clear hw1 hw2 CA CB
        cases x with
        | false =>
          have HZ := hide (HV.out.symm.trans (ans_a HB.out HC.out HA.out))
          cases y <;>
            (go_wp2_with fail
             go_ret2
             exact ⟨by rw [HZ.out]; rfl, hw⟩)
        | true =>
          cases y with
          | false =>
            have HZ := hide (HV.out.symm.trans (ans_b HB.out HC.out HBY.out))
            go_wp2_with fail
            go_ret2
            exact ⟨by rw [HZ.out]; rfl, hw⟩
          | true =>
            by_cases hbd : 0 ≤ a ∧ a ≤ 32767 ∧ 0 ≤ b ∧ b < 65536
            · have HF := hide (fun hX : X = s => HV.out.symm.trans (ans_yes (n := -(a * 65536 + b)) HB.out HC.out HA.out HBY.out hbd.1 hbd.2.1 hbd.2.2.1 hbd.2.2.2 (by rfl) (SX.out.trans hX)))
              have HG := hide (fun hX : ¬ X = s => HV.out.symm.trans (ans_no (n := -(a * 65536 + b)) HB.out HC.out HA.out HBY.out hbd.1 hbd.2.1 hbd.2.2.1 hbd.2.2.2 (by rfl) (fun e => hX (SX.out.symm.trans e))))
              obtain ⟨q0, q1, q2, q3⟩ := hbd
              go_wp2_with fail
              refine (CX.out _).mono ?_
              rintro e w3 ⟨rfl, hw3⟩
              have hw' := hw.trans (hw3.mono hw.size)
              by_cases hX : X = s
              · have HZ := hide (HF.out hX)
                clear HF HG SX CX
                subst hX
                go_wp2_with fail
                go_ret2
                exact ⟨by rw [HZ.out]; rfl, hw'⟩
              · have HZ := hide (HG.out hX)
                have hne := ne_list hX
                go_wp2_with fail
                go_ret2
                exact ⟨by rw [HZ.out]; rfl, hw'⟩
            · have HZ := hide (HV.out.symm.trans (ans_far HB.out HC.out HA.out HBY.out hbd))
              have hbd' : a < 0 ∨ (0 ≤ a ∧ b < 0) ∨ (0 ≤ a ∧ 0 ≤ b ∧ 32767 < a) ∨ (0 ≤ a ∧ 0 ≤ b ∧ a ≤ 32767 ∧ 65536 ≤ b) := by omega
              clear hbd
              rcases hbd' with h | ⟨h, h'⟩ | ⟨h, h', h''⟩ | ⟨h, h', h'', h3⟩
              all_goals
                go_wp2_with fail
                go_ret2
                exact ⟨by rw [HZ.out]; rfl, hw⟩
      · have hpn : t[j].toNat ≠ 43 := fun e => hp (UInt8.toNat_inj.1 e)
        have HS : Hid (∀ i : Nat, i < j + 1 → t.data.toList[i]? ≠ some 43) := fun i hi => by
          by_cases h : i < j
          · exact HJ.out i h
          · obtain rfl : i = j := by omega
            rw [at_byte t i hjt]
            intro e
            injection e with e
            exact hp e
        clear HJ hp
        go_wp2_with fail
        go_round
        case rel => exact ⟨j + 1, by go_num, by omega, HS⟩
        case measure => simp [intOf]; omega
    · obtain rfl : j = t.size := by omega
      have HC := hide (cut_not HJ.out)
      have HZ := hide (HV.out.symm.trans (ans_b HB.out HC.out rdec_nil))
      clear HJ
      go_wp2_with fail
      go_ret2
      exact ⟨by rw [HZ.out]; rfl, Below.refl _ _⟩
set_option maxHeartbeats 1000000 in
theorem spec_ReadFix_nil (t : ByteArray) (hs : t.size ≤ 1048576) (w : World) (hz : t.size = 0) (HB0 : Bod t t false) :
    Calls Tryd.prog 20 #[.string t] w fun e w' => e = .returned (rfixV t.data.toList) ∧ Below w.heap.size w w' := by
  have hts : t.size ≤ t.size := HB0.size
  obtain ⟨V, hV⟩ : ∃ V, rfixV t.data.toList = V := ⟨_, rfl⟩
  rw [hV]
  have HV := hide hV
  have HB := hide HB0
  have hlt : decide ((t.size : Int) < (t.size : Int)) = false := HB0.less
  clear hV HB0 hlt hts
  have hz' : (t.size : Int) = 0 := by omega
  go_enter Tryd.func20, Tryd.ntmps20
  go_wp2_with fail
  go_loop [5] (fun k => ∃ (j : Nat), k = .int .i64 (j : Int) ∧ j ≤ t.size ∧ Hid (∀ i : Nat, i < j → t.data.toList[i]? ≠ some 43))
    (fun k => t.size - (intOf k).toNat)
  case atStart => exact ⟨0, rfl, Nat.zero_le _, fun i hi => absurd hi (Nat.not_lt_zero _)⟩
  case round =>
    obtain ⟨j, rfl, hj, HJ⟩ := hrel
    by_cases hjt : j < t.size
    · exfalso; omega
    · obtain rfl : j = t.size := by omega
      have HC := hide (cut_not HJ.out)
      have HZ := hide (HV.out.symm.trans (ans_b HB.out HC.out rdec_nil))
      clear HJ
      go_wp2_with fail
      go_ret2
      exact ⟨by rw [HZ.out]; rfl, Below.refl _ _⟩
set_option maxHeartbeats 1000000 in
theorem spec_ReadFix_false (t : ByteArray) (hs : t.size ≤ 1048576) (w : World) (hz : 0 < t.size) (hc : t[0].toNat ≠ 45) (HB0 : Bod t t false) :
    Calls Tryd.prog 20 #[.string t] w fun e w' => e = .returned (rfixV t.data.toList) ∧ Below w.heap.size w w' := by
  have hts : t.size ≤ t.size := HB0.size
  obtain ⟨V, hV⟩ : ∃ V, rfixV t.data.toList = V := ⟨_, rfl⟩
  rw [hV]
  have HV := hide hV
  have HB := hide HB0
  have hlt : decide ((t.size : Int) < (t.size : Int)) = false := HB0.less
  clear hV HB0 hlt hts
  have hz' : (0 : Int) < (t.size : Int) := by omega
  go_enter Tryd.func20, Tryd.ntmps20
  go_wp2_with fail
  go_loop [5] (fun k => ∃ (j : Nat), k = .int .i64 (j : Int) ∧ j ≤ t.size ∧ Hid (∀ i : Nat, i < j → t.data.toList[i]? ≠ some 43))
    (fun k => t.size - (intOf k).toNat)
  case atStart => exact ⟨0, rfl, Nat.zero_le _, fun i hi => absurd hi (Nat.not_lt_zero _)⟩
  case round =>
    obtain ⟨j, rfl, hj, HJ⟩ := hrel
    by_cases hjt : j < t.size
    · have hjt' : (j : Int) < (t.size : Int) := by omega
      by_cases hp : t[j] = 43
      · have HC := hide (cut_at hjt hp HJ.out)
        clear HJ
        have hz1 : (t.extract 0 j).size ≤ 1048576 := by simp; omega
        have hz2 : (t.extract (j + 1) t.size).size ≤ 1048576 := by simp; omega
        obtain ⟨a, x, ha0, ha1, HA, CA⟩ := spec_rd (t.extract 0 j) hz1
        obtain ⟨b, y, hb0, hb1, HBY, CB⟩ := spec_rd (t.extract (j + 1) t.size) hz2
        obtain ⟨X, SX, CX⟩ := spec_shw (a * 65536 + b) (by omega) (by omega)
        have hjn : ¬ (j : Int) = (t.size : Int) := by omega
        go_wp2_with fail
        refine (CA.out _).mono ?_
        rintro e w1 ⟨rfl, hw1⟩
        go_wp2_with fail
        refine (CB.out _).mono ?_
        rintro e w2 ⟨rfl, hw2⟩
        have hw := hw1.trans (hw2.mono hw1.size)
        clear hw1 hw2 CA CB
        cases x with
        | false =>
          have HZ := hide (HV.out.symm.trans (ans_a HB.out HC.out HA.out))
          cases y <;>
            (go_wp2_with fail
             go_ret2
             exact ⟨by rw [HZ.out]; rfl, hw⟩)
        | true =>
          cases y with
          | false =>
            have HZ := hide (HV.out.symm.trans (ans_b HB.out HC.out HBY.out))
            go_wp2_with fail
            go_ret2
            exact ⟨by rw [HZ.out]; rfl, hw⟩
          | true =>
            by_cases hbd : 0 ≤ a ∧ a ≤ 32767 ∧ 0 ≤ b ∧ b < 65536
            · have HF := hide (fun hX : X = t => HV.out.symm.trans (ans_yes (n := a * 65536 + b) HB.out HC.out HA.out HBY.out hbd.1 hbd.2.1 hbd.2.2.1 hbd.2.2.2 (by rfl) (SX.out.trans hX)))
              have HG := hide (fun hX : ¬ X = t => HV.out.symm.trans (ans_no (n := a * 65536 + b) HB.out HC.out HA.out HBY.out hbd.1 hbd.2.1 hbd.2.2.1 hbd.2.2.2 (by rfl) (fun e => hX (SX.out.symm.trans e))))
              obtain ⟨q0, q1, q2, q3⟩ := hbd
              go_wp2_with fail
              refine (CX.out _).mono ?_
              rintro e w3 ⟨rfl, hw3⟩
              have hw' := hw.trans (hw3.mono hw.size)
              by_cases hX : X = t
              · have HZ := hide (HF.out hX)
                clear HF HG SX CX
                subst hX
                go_wp2_with fail
                go_ret2
                exact ⟨by rw [HZ.out]; rfl, hw'⟩
              · have HZ := hide (HG.out hX)
                have hne := ne_list hX
                go_wp2_with fail
                go_ret2
                exact ⟨by rw [HZ.out]; rfl, hw'⟩
            · have HZ := hide (HV.out.symm.trans (ans_far HB.out HC.out HA.out HBY.out hbd))
              have hbd' : a < 0 ∨ (0 ≤ a ∧ b < 0) ∨ (0 ≤ a ∧ 0 ≤ b ∧ 32767 < a) ∨ (0 ≤ a ∧ 0 ≤ b ∧ a ≤ 32767 ∧ 65536 ≤ b) := by omega
              clear hbd
              rcases hbd' with h | ⟨h, h'⟩ | ⟨h, h', h''⟩ | ⟨h, h', h'', h3⟩
              all_goals
                go_wp2_with fail
                go_ret2
                exact ⟨by rw [HZ.out]; rfl, hw⟩
      · have hpn : t[j].toNat ≠ 43 := fun e => hp (UInt8.toNat_inj.1 e)
        have HS : Hid (∀ i : Nat, i < j + 1 → t.data.toList[i]? ≠ some 43) := fun i hi => by
          by_cases h : i < j
          · exact HJ.out i h
          · obtain rfl : i = j := by omega
            rw [at_byte t i hjt]
            intro e
            injection e with e
            exact hp e
        clear HJ hp
        go_wp2_with fail
        go_round
        case rel => exact ⟨j + 1, by go_num, by omega, HS⟩
        case measure => simp [intOf]; omega
    · obtain rfl : j = t.size := by omega
      have HC := hide (cut_not HJ.out)
      have HZ := hide (HV.out.symm.trans (ans_b HB.out HC.out rdec_nil))
      clear HJ
      go_wp2_with fail
      go_ret2
      exact ⟨by rw [HZ.out]; rfl, Below.refl _ _⟩
theorem spec_ReadFix (s : ByteArray) (hs : s.size ≤ 1048576) (w : World) :
    Calls Tryd.prog 20 #[.string s] w fun e w' => e = .returned (rfixV s.data.toList) ∧ Below w.heap.size w w' := by
  by_cases hz : 0 < s.size
  · by_cases hc : s[0] = 45
    · exact spec_ReadFix_true s _ hs w hz hc rfl (bod_neg s hz hc)
    · exact spec_ReadFix_false s hs w hz (fun e => hc (UInt8.toNat_inj.1 e)) (bod_pos s (Or.inr ⟨hz, hc⟩))
  · exact spec_ReadFix_nil s hs w (by omega) (bod_pos s (Or.inl (by omega)))
end Go.Proofs.YtgfieeonlhcnhaaDoor
