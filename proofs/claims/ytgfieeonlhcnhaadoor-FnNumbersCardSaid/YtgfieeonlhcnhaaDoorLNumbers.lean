/-
  PROVED HERE: the law 'laws.FnNumbers' returns true and leaves its arguments as they were, where the listed variables hold what the program lays; and the tied card.
-/
import Derived.Test.YtgfieeonlhcnhaaDoorRows
import Derived.Test.YtgfieeonlhcnhaaDoorCards
import Derived.Test.YtgfieeonlhcnhaaDoorTie
import Derived.Test.YtgfieeonlhcnhaaDoorDoor
import Derived.Test.YtgfieeonlhcnhaaDoorOpenB
import Derived.Test.YtgfieeonlhcnhaaDoorDetD
import Derived.Test.YtgfieeonlhcnhaaDoorRdI
import Derived.Test.YtgfieeonlhcnhaaDoorPlainN
import Derived.WalkKit
import Derived.Deep.RegionHeld3
import Derived.ProofKit
import Derived.OpenShut
import Derived.SevenTiedAt
namespace Go.Proofs.YtgfieeonlhcnhaaDoor.fnNumbers
open Go Go.ChangeShapes Go.WideShapes Go.ChangeAt Go.RowKit
open Go.ChangeMaps (open_string)
set_option maxRecDepth 100000
set_option linter.unusedVariables false
theorem cells_u8 : Tryd.prog.cellsOf 5 = 1 := by kernel_rfl
/-- a number is written, and read behind itself -/
structure VarF (n : Int) (T s : ByteArray) (x k : Int) : Prop where
  wr : ∀ w, Calls Tryd.prog 23 #[.int .i64 n] w fun e w' => e = .returned (.string s) ∧ Below w.heap.size w w'
  rd : ∀ w, Calls Tryd.prog 24 #[.string (s ++ T)] w fun e w' => e = .returned (.tuple #[.int .i64 x, .int .i64 k]) ∧ w = w'
structure FixF (n : Int) (T t : ByteArray) (y : Int) (b : Bool) : Prop where
  wr : ∀ w, Calls Tryd.prog 25 #[.int .i64 n, .int .i64 7] w fun e w' => e = .returned (.string t) ∧ Below w.heap.size w w'
  rd : ∀ w, Calls Tryd.prog 26 #[.string (t ++ T), .int .i64 7] w fun e w' => e = .returned (.tuple #[.int .i64 y, .bool b]) ∧ w = w'
structure DecF (n : Int) (s : ByteArray) (d : Int) (b : Bool) : Prop where
  wr : ∀ w, Tab w → Calls Tryd.prog 16 #[.int .i64 n] w fun e w' => e = .returned (.string s) ∧ Below w.heap.size w w'
  rd : ∀ w, Tab w → Errs w → Calls Tryd.prog 18 #[.string s] w fun e w' => e = .returned (.tuple #[.int .i64 d, .bool b]) ∧ Below w.heap.size w w'
structure HexF (T s : ByteArray) : Prop where
  wr : ∀ w, Calls Tryd.prog 28 #[.string T] w fun e w' => e = .returned (.string s) ∧ Below w.heap.size w w'
  rd : ∀ w, Calls Tryd.prog 27 #[.string s] w fun e w' => e = .returned (.tuple #[.string T, .bool true]) ∧ Below w.heap.size w w'
theorem ne_empty {s : ByteArray} (h : 0 < s.size) : ¬ s.toList = [] ∧ s.toList.isEmpty = false := by
  have hl : s.toList.length = s.size := by rw [Go.ByteArray.toList_eq, Array.length_toList]; rfl
  cases h' : s.toList with
  | nil => rw [h', List.length_nil] at hl; omega
  | cons a l => exact ⟨by simp, rfl⟩
theorem app_size (s t : ByteArray) : (s ++ t).size = s.size + t.size := ByteArray.size_append
theorem varF_yes {n : Int} {T : ByteArray} (h0 : 0 ≤ n) (h1 : n ≤ 562949953421311) (hT : T.size ≤ 40) : ∃ s, 0 < s.size ∧ s.size ≤ 7 ∧ VarF n T s n s.size := by
  have hz := varS_size h0 h1
  refine ⟨varS n, by omega, by omega, fun w => impl_Var n w, fun w => ?_⟩
  have h := var_read h0 h1 T
  have g := impl_ReadVar (varS n ++ T) w (by rw [app_size]; omega)
  rwa [h.1, h.2] at g
theorem varF_no {n : Int} {T : ByteArray} (h : ¬ (0 ≤ n ∧ n ≤ 562949953421311)) (hT : T.size ≤ 40) : ∃ x k, VarF n T ByteArray.empty x k := by
  refine ⟨_, _, fun w => ?_, fun w => impl_ReadVar (ByteArray.empty ++ T) w (by rw [app_size]; simp; omega)⟩
  have g := impl_Var n w
  rwa [varS_no h] at g
theorem fixF_yes {n : Int} {T : ByteArray} (h0 : 0 ≤ n) (h1 : n < 72057594037927936) (hT : T.size ≤ 40) : ∃ t, t.size = 7 ∧ FixF n T t n true := by
  have hz := fix_size h0 h1
  refine ⟨fixS n 7, hz, fun w => impl_Fixed n 7 w (by omega), fun w => ?_⟩
  have h := fix_read h0 h1 T
  have g := impl_ReadFixed (fixS n 7 ++ T) 7 w (by rw [app_size]; simp only [maxLen]; omega)
  rwa [h.1, h.2] at g
theorem fixF_no {n : Int} {T : ByteArray} (g1 : n ≤ 9223372036854775807) (h : n < 0 ∨ 72057594037927936 ≤ n) (hT : T.size ≤ 40) : ∃ y b, FixF n T ByteArray.empty y b := by
  refine ⟨_, _, fun w => ?_, fun w => impl_ReadFixed (ByteArray.empty ++ T) 7 w (by rw [app_size]; simp only [maxLen]; simp; omega)⟩
  have g := impl_Fixed n 7 w g1
  rwa [fixS_no h] at g
theorem dec_len {n : Int} (g0 : -9223372036854775808 ≤ n) (g1 : n ≤ 9223372036854775807) : (⟨(Lib.itoa n).toArray⟩ : ByteArray).size ≤ 1048576 := by
  show (Lib.itoa n).toArray.size ≤ 1048576
  rw [List.size_toArray]
  have h := nDig_le n.natAbs (by omega)
  have h2 : (Lib.itoa n).length ≤ Lib.nDigits n.natAbs + 1 := by
    rw [Lib.itoa]
    split
    · rw [List.length_cons, Lib.decDigits_length]; omega
    · rw [Lib.decDigits_length, show n.toNat = n.natAbs by omega]; omega
  omega
theorem decF_yes {n : Int} (h0 : -999999999 ≤ n) (h1 : n ≤ 999999999) : ∃ s, DecF n s n true := by
  refine ⟨_, fun w hT => impl_Dec n (by omega) (by omega) w hT, fun w hT hE => ?_⟩
  have g := impl_ReadDec ⟨(Lib.itoa n).toArray⟩ (dec_len (by omega) (by omega)) w hT hE
  rwa [show rdecV (⟨(Lib.itoa n).toArray⟩ : ByteArray).data.toList = .tuple #[.int .i64 n, .bool true] from rdecV_some (rdec_itoa h0 h1)] at g
theorem decF_no {n : Int} (g0 : -9223372036854775808 ≤ n) (g1 : n ≤ 9223372036854775807) (h : n < -999999999 ∨ 999999999 < n) : ∃ s, DecF n s 0 false := by
  refine ⟨_, fun w hT => impl_Dec n g0 g1 w hT, fun w hT hE => ?_⟩
  have g := impl_ReadDec ⟨(Lib.itoa n).toArray⟩ (dec_len g0 g1) w hT hE
  rwa [show rdecV (⟨(Lib.itoa n).toArray⟩ : ByteArray).data.toList = .tuple #[.int .i64 0, .bool false] from rdecV_none (rdec_far2 g0 g1 h)] at g
theorem hexF {T : ByteArray} (hT : T.size ≤ 40) : ∃ s, HexF T s := by
  refine ⟨_, fun w => impl_Hex T w (by omega), fun w => ?_⟩
  have h := hex_read T
  have g := impl_Unhex (strOfNums (hexL T.data.toList)) w (by rw [strOfNums_size, hexL_len, Array.length_toList]; show 2 * T.size ≤ 1048576; omega)
  rwa [h.1, h.2] at g
/-- the last text is read -/
theorem lastF {R : ByteArray} (hR : R.size ≤ 20) : (∃ z, ∀ w, Calls Tryd.prog 24 #[.string R] w fun e w' => e = .returned (.tuple #[.int .i64 z, .int .i64 0]) ∧ w = w') ∨
    (∃ z, ∃ j : Nat, 0 < j ∧ j ≤ R.size ∧ (∀ w, Calls Tryd.prog 24 #[.string R] w fun e w' => e = .returned (.tuple #[.int .i64 z, .int .i64 (j : Int)]) ∧ w = w') ∧
      (∀ w, Calls Tryd.prog 23 #[.int .i64 z] w fun e w' => e = .returned (.string (R.extract 0 j)) ∧ Below w.heap.size w w')) := by
  by_cases h : rvN R.data.toList = 0
  · left
    refine ⟨(rvV R.data.toList : Nat), fun w => ?_⟩
    have g := impl_ReadVar R w (by omega)
    rwa [h] at g
  · right
    obtain ⟨h1, -, -⟩ := rv_back h
    refine ⟨(rvV R.data.toList : Nat), rvN R.data.toList, by omega, by simpa using h1, fun w => impl_ReadVar R w (by omega), fun w => ?_⟩
    have g := impl_Var (rvV R.data.toList : Nat) w
    rwa [var_back h] at g
set_option maxHeartbeats 16000000 in
theorem walk (w : World) {A0 : Option Addr} {n0 c0 : Nat} (hC0 : (n0 : Int) ≤ 1048576 → BA w w.heap.size A0 n0 c0) (hT : Tab w) (hE : Errs w) : Calls Tryd.prog 8 #[.slice A0 n0 c0] w fun e w' => e = .returned (.bool true) ∧ Below w.heap.size w w' := by
  skip
  by_cases hL : (1048576 : Int) < (n0 : Int)
  · go_enter Tryd.func8, Tryd.ntmps8
    go_wp2_with fail
    refine (laws_big_yes _ _ _ w hL).mono ?_
    rintro e w' ⟨rfl, rfl⟩
    go_wp2_with fail
    go_ret
    exact ⟨rfl, Below.refl _ _⟩
  have hb0 := hide (hC0 (by omega))
  have HL := hide (show (n0 : Int) ≤ 1048576 by omega)
  clear hC0 hL
  go_enter Tryd.func8, Tryd.ntmps8
  go_wp2_with fail
  refine (laws_big_no _ _ _ w HL.out).mono ?_
  rintro e w' ⟨rfl, rfl⟩
  go_wp2_with fail
  obtain ⟨xs, hx⟩ := hb0.out.x
  obtain ⟨N, g0, g1, HN⟩ := det_DrawVar xs
  obtain ⟨T, hTz, HT⟩ := det_DrawHex xs
  obtain ⟨R, hRz, HR⟩ := det_DrawReadVar xs
  have HTab := hide hT
  have HErr := hide hE
  have HX := hide hx
  obtain ⟨sh, hsh⟩ := hexF hTz
  have HH := hide hsh
  clear hb0 hT hE hx hsh
  have hc : (0 ≤ N ∧ N ≤ 999999999) ∨ (999999999 < N ∧ N ≤ 562949953421311) ∨ (562949953421311 < N ∧ N < 72057594037927936) ∨ 72057594037927936 ≤ N ∨ (-999999999 ≤ N ∧ N < 0) ∨ N < -999999999 := by omega
  rcases hc with ⟨c0, c1⟩ | ⟨c0, c1⟩ | ⟨c0, c1⟩ | c0 | ⟨c0, c1⟩ | c0
  · obtain ⟨s, hs0, hs7, hv⟩ := varF_yes (n := N) (by omega) (by omega) hTz
    obtain ⟨t, ht7, hf⟩ := fixF_yes (n := N) (by omega) (by omega) hTz
    obtain ⟨sd, hd⟩ := decF_yes (n := N) (by omega) (by omega)
    have HV := hide hv
    have HF := hide hf
    have HD := hide hd
    obtain ⟨hsn, hsn2⟩ := ne_empty hs0
    obtain ⟨htn, htn2⟩ := ne_empty (s := t) (by omega)
    clear hv hf hd
    rcases lastF hRz with ⟨z, hl⟩ | ⟨z, j, hj0, hj1, hl, hl2⟩
    · have HL := hide hl
      clear hl
      go_wp2_with fail
      refine (HN.out _ _ _ _ w HX.out (Nat.le_refl _)).mono ?_
      rintro e w1 ⟨rfl, hb⟩
      have HB1 := hide hb
      have HX1 := hide (HX.out.below HB1.out)
      clear hb
      go_wp2_with fail
      refine (HT.out _ _ _ _ w1 HX1.out HB1.out.size).mono ?_
      rintro e w2 ⟨rfl, hb⟩
      have HB2 := hide (HB1.out.trans (hb.mono HB1.out.size))
      have HX2 := hide (HX.out.below HB2.out)
      clear hb HB1 HX1
      go_wp2_with fail
      refine (HV.out.wr w2).mono ?_
      rintro e w3 ⟨rfl, hb⟩
      have HB3 := hide (HB2.out.trans (hb.mono HB2.out.size))
      have HX3 := hide (HX.out.below HB3.out)
      clear hb HB2 HX2
      go_wp2_with fail
      refine (HV.out.rd w3).mono ?_
      rintro e w' ⟨rfl, rfl⟩
      go_wp2_with fail
      refine (HF.out.wr w3).mono ?_
      rintro e w4 ⟨rfl, hb⟩
      have HB4 := hide (HB3.out.trans (hb.mono HB3.out.size))
      have HX4 := hide (HX.out.below HB4.out)
      clear hb HB3 HX3
      go_wp2_with fail
      refine (HF.out.rd w4).mono ?_
      rintro e w' ⟨rfl, rfl⟩
      go_wp2_with fail
      refine (HD.out.wr w4 (HTab.out.below HB4.out)).mono ?_
      rintro e w5 ⟨rfl, hb⟩
      have HB5 := hide (HB4.out.trans (hb.mono HB4.out.size))
      have HX5 := hide (HX.out.below HB5.out)
      clear hb HB4 HX4
      go_wp2_with fail
      refine (HD.out.rd w5 (HTab.out.below HB5.out) (HErr.out.below HB5.out)).mono ?_
      rintro e w6 ⟨rfl, hb⟩
      have HB6 := hide (HB5.out.trans (hb.mono HB5.out.size))
      have HX6 := hide (HX.out.below HB6.out)
      clear hb HB5 HX5
      go_wp2_with fail
      refine (HH.out.wr w6).mono ?_
      rintro e w7 ⟨rfl, hb⟩
      have HB7 := hide (HB6.out.trans (hb.mono HB6.out.size))
      have HX7 := hide (HX.out.below HB7.out)
      clear hb HB6 HX6
      go_wp2_with fail
      refine (HH.out.rd w7).mono ?_
      rintro e w8 ⟨rfl, hb⟩
      have HB8 := hide (HB7.out.trans (hb.mono HB7.out.size))
      have HX8 := hide (HX.out.below HB8.out)
      clear hb HB7 HX7
      go_wp2_with fail
      refine (HR.out _ _ _ _ w8 HX8.out HB8.out.size).mono ?_
      rintro e w9 ⟨rfl, hb⟩
      have HB9 := hide (HB8.out.trans (hb.mono HB8.out.size))
      have HX9 := hide (HX.out.below HB9.out)
      clear hb HB8 HX8
      go_wp2_with fail
      refine (HL.out w9).mono ?_
      rintro e w' ⟨rfl, rfl⟩
      go_wp2_with fail
      go_ret
      exact ⟨rfl, HB9.out⟩
    · have HL := hide hl
      have HL2 := hide hl2
      clear hl hl2
      go_wp2_with fail
      refine (HN.out _ _ _ _ w HX.out (Nat.le_refl _)).mono ?_
      rintro e w1 ⟨rfl, hb⟩
      have HB1 := hide hb
      have HX1 := hide (HX.out.below HB1.out)
      clear hb
      go_wp2_with fail
      refine (HT.out _ _ _ _ w1 HX1.out HB1.out.size).mono ?_
      rintro e w2 ⟨rfl, hb⟩
      have HB2 := hide (HB1.out.trans (hb.mono HB1.out.size))
      have HX2 := hide (HX.out.below HB2.out)
      clear hb HB1 HX1
      go_wp2_with fail
      refine (HV.out.wr w2).mono ?_
      rintro e w3 ⟨rfl, hb⟩
      have HB3 := hide (HB2.out.trans (hb.mono HB2.out.size))
      have HX3 := hide (HX.out.below HB3.out)
      clear hb HB2 HX2
      go_wp2_with fail
      refine (HV.out.rd w3).mono ?_
      rintro e w' ⟨rfl, rfl⟩
      go_wp2_with fail
      refine (HF.out.wr w3).mono ?_
      rintro e w4 ⟨rfl, hb⟩
      have HB4 := hide (HB3.out.trans (hb.mono HB3.out.size))
      have HX4 := hide (HX.out.below HB4.out)
      clear hb HB3 HX3
      go_wp2_with fail
      refine (HF.out.rd w4).mono ?_
      rintro e w' ⟨rfl, rfl⟩
      go_wp2_with fail
      refine (HD.out.wr w4 (HTab.out.below HB4.out)).mono ?_
      rintro e w5 ⟨rfl, hb⟩
      have HB5 := hide (HB4.out.trans (hb.mono HB4.out.size))
      have HX5 := hide (HX.out.below HB5.out)
      clear hb HB4 HX4
      go_wp2_with fail
      refine (HD.out.rd w5 (HTab.out.below HB5.out) (HErr.out.below HB5.out)).mono ?_
      rintro e w6 ⟨rfl, hb⟩
      have HB6 := hide (HB5.out.trans (hb.mono HB5.out.size))
      have HX6 := hide (HX.out.below HB6.out)
      clear hb HB5 HX5
      go_wp2_with fail
      refine (HH.out.wr w6).mono ?_
      rintro e w7 ⟨rfl, hb⟩
      have HB7 := hide (HB6.out.trans (hb.mono HB6.out.size))
      have HX7 := hide (HX.out.below HB7.out)
      clear hb HB6 HX6
      go_wp2_with fail
      refine (HH.out.rd w7).mono ?_
      rintro e w8 ⟨rfl, hb⟩
      have HB8 := hide (HB7.out.trans (hb.mono HB7.out.size))
      have HX8 := hide (HX.out.below HB8.out)
      clear hb HB7 HX7
      go_wp2_with fail
      refine (HR.out _ _ _ _ w8 HX8.out HB8.out.size).mono ?_
      rintro e w9 ⟨rfl, hb⟩
      have HB9 := hide (HB8.out.trans (hb.mono HB8.out.size))
      have HX9 := hide (HX.out.below HB9.out)
      clear hb HB8 HX8
      go_wp2_with fail
      refine (HL.out w9).mono ?_
      rintro e w' ⟨rfl, rfl⟩
      go_wp2_with fail
      refine (HR.out _ _ _ _ w9 HX9.out HB9.out.size).mono ?_
      rintro e w10 ⟨rfl, hb⟩
      have HB10 := hide (HB9.out.trans (hb.mono HB9.out.size))
      have HX10 := hide (HX.out.below HB10.out)
      clear hb HB9 HX9
      go_wp2_with fail
      refine (HL2.out w10).mono ?_
      rintro e w11 ⟨rfl, hb⟩
      have HB11 := hide (HB10.out.trans (hb.mono HB10.out.size))
      have HX11 := hide (HX.out.below HB11.out)
      clear hb HB10 HX10
      go_wp2_with fail
      refine (HR.out _ _ _ _ w11 HX11.out HB11.out.size).mono ?_
      rintro e w12 ⟨rfl, hb⟩
      have HB12 := hide (HB11.out.trans (hb.mono HB11.out.size))
      have HX12 := hide (HX.out.below HB12.out)
      clear hb HB11 HX11
      go_wp2_with fail
      go_ret
      exact ⟨rfl, HB12.out⟩
  · obtain ⟨s, hs0, hs7, hv⟩ := varF_yes (n := N) (by omega) (by omega) hTz
    obtain ⟨t, ht7, hf⟩ := fixF_yes (n := N) (by omega) (by omega) hTz
    obtain ⟨sd, hd⟩ := decF_no g0 g1 (by omega)
    have HV := hide hv
    have HF := hide hf
    have HD := hide hd
    obtain ⟨hsn, hsn2⟩ := ne_empty hs0
    obtain ⟨htn, htn2⟩ := ne_empty (s := t) (by omega)
    clear hv hf hd
    rcases lastF hRz with ⟨z, hl⟩ | ⟨z, j, hj0, hj1, hl, hl2⟩
    · have HL := hide hl
      clear hl
      go_wp2_with fail
      refine (HN.out _ _ _ _ w HX.out (Nat.le_refl _)).mono ?_
      rintro e w1 ⟨rfl, hb⟩
      have HB1 := hide hb
      have HX1 := hide (HX.out.below HB1.out)
      clear hb
      go_wp2_with fail
      refine (HT.out _ _ _ _ w1 HX1.out HB1.out.size).mono ?_
      rintro e w2 ⟨rfl, hb⟩
      have HB2 := hide (HB1.out.trans (hb.mono HB1.out.size))
      have HX2 := hide (HX.out.below HB2.out)
      clear hb HB1 HX1
      go_wp2_with fail
      refine (HV.out.wr w2).mono ?_
      rintro e w3 ⟨rfl, hb⟩
      have HB3 := hide (HB2.out.trans (hb.mono HB2.out.size))
      have HX3 := hide (HX.out.below HB3.out)
      clear hb HB2 HX2
      go_wp2_with fail
      refine (HV.out.rd w3).mono ?_
      rintro e w' ⟨rfl, rfl⟩
      go_wp2_with fail
      refine (HF.out.wr w3).mono ?_
      rintro e w4 ⟨rfl, hb⟩
      have HB4 := hide (HB3.out.trans (hb.mono HB3.out.size))
      have HX4 := hide (HX.out.below HB4.out)
      clear hb HB3 HX3
      go_wp2_with fail
      refine (HF.out.rd w4).mono ?_
      rintro e w' ⟨rfl, rfl⟩
      go_wp2_with fail
      refine (HD.out.wr w4 (HTab.out.below HB4.out)).mono ?_
      rintro e w5 ⟨rfl, hb⟩
      have HB5 := hide (HB4.out.trans (hb.mono HB4.out.size))
      have HX5 := hide (HX.out.below HB5.out)
      clear hb HB4 HX4
      go_wp2_with fail
      refine (HD.out.rd w5 (HTab.out.below HB5.out) (HErr.out.below HB5.out)).mono ?_
      rintro e w6 ⟨rfl, hb⟩
      have HB6 := hide (HB5.out.trans (hb.mono HB5.out.size))
      have HX6 := hide (HX.out.below HB6.out)
      clear hb HB5 HX5
      go_wp2_with fail
      refine (HH.out.wr w6).mono ?_
      rintro e w7 ⟨rfl, hb⟩
      have HB7 := hide (HB6.out.trans (hb.mono HB6.out.size))
      have HX7 := hide (HX.out.below HB7.out)
      clear hb HB6 HX6
      go_wp2_with fail
      refine (HH.out.rd w7).mono ?_
      rintro e w8 ⟨rfl, hb⟩
      have HB8 := hide (HB7.out.trans (hb.mono HB7.out.size))
      have HX8 := hide (HX.out.below HB8.out)
      clear hb HB7 HX7
      go_wp2_with fail
      refine (HR.out _ _ _ _ w8 HX8.out HB8.out.size).mono ?_
      rintro e w9 ⟨rfl, hb⟩
      have HB9 := hide (HB8.out.trans (hb.mono HB8.out.size))
      have HX9 := hide (HX.out.below HB9.out)
      clear hb HB8 HX8
      go_wp2_with fail
      refine (HL.out w9).mono ?_
      rintro e w' ⟨rfl, rfl⟩
      go_wp2_with fail
      go_ret
      exact ⟨rfl, HB9.out⟩
    · have HL := hide hl
      have HL2 := hide hl2
      clear hl hl2
      go_wp2_with fail
      refine (HN.out _ _ _ _ w HX.out (Nat.le_refl _)).mono ?_
      rintro e w1 ⟨rfl, hb⟩
      have HB1 := hide hb
      have HX1 := hide (HX.out.below HB1.out)
      clear hb
      go_wp2_with fail
      refine (HT.out _ _ _ _ w1 HX1.out HB1.out.size).mono ?_
      rintro e w2 ⟨rfl, hb⟩
      have HB2 := hide (HB1.out.trans (hb.mono HB1.out.size))
      have HX2 := hide (HX.out.below HB2.out)
      clear hb HB1 HX1
      go_wp2_with fail
      refine (HV.out.wr w2).mono ?_
      rintro e w3 ⟨rfl, hb⟩
      have HB3 := hide (HB2.out.trans (hb.mono HB2.out.size))
      have HX3 := hide (HX.out.below HB3.out)
      clear hb HB2 HX2
      go_wp2_with fail
      refine (HV.out.rd w3).mono ?_
      rintro e w' ⟨rfl, rfl⟩
      go_wp2_with fail
      refine (HF.out.wr w3).mono ?_
      rintro e w4 ⟨rfl, hb⟩
      have HB4 := hide (HB3.out.trans (hb.mono HB3.out.size))
      have HX4 := hide (HX.out.below HB4.out)
      clear hb HB3 HX3
      go_wp2_with fail
      refine (HF.out.rd w4).mono ?_
      rintro e w' ⟨rfl, rfl⟩
      go_wp2_with fail
      refine (HD.out.wr w4 (HTab.out.below HB4.out)).mono ?_
      rintro e w5 ⟨rfl, hb⟩
      have HB5 := hide (HB4.out.trans (hb.mono HB4.out.size))
      have HX5 := hide (HX.out.below HB5.out)
      clear hb HB4 HX4
      go_wp2_with fail
      refine (HD.out.rd w5 (HTab.out.below HB5.out) (HErr.out.below HB5.out)).mono ?_
      rintro e w6 ⟨rfl, hb⟩
      have HB6 := hide (HB5.out.trans (hb.mono HB5.out.size))
      have HX6 := hide (HX.out.below HB6.out)
      clear hb HB5 HX5
      go_wp2_with fail
      refine (HH.out.wr w6).mono ?_
      rintro e w7 ⟨rfl, hb⟩
      have HB7 := hide (HB6.out.trans (hb.mono HB6.out.size))
      have HX7 := hide (HX.out.below HB7.out)
      clear hb HB6 HX6
      go_wp2_with fail
      refine (HH.out.rd w7).mono ?_
      rintro e w8 ⟨rfl, hb⟩
      have HB8 := hide (HB7.out.trans (hb.mono HB7.out.size))
      have HX8 := hide (HX.out.below HB8.out)
      clear hb HB7 HX7
      go_wp2_with fail
      refine (HR.out _ _ _ _ w8 HX8.out HB8.out.size).mono ?_
      rintro e w9 ⟨rfl, hb⟩
      have HB9 := hide (HB8.out.trans (hb.mono HB8.out.size))
      have HX9 := hide (HX.out.below HB9.out)
      clear hb HB8 HX8
      go_wp2_with fail
      refine (HL.out w9).mono ?_
      rintro e w' ⟨rfl, rfl⟩
      go_wp2_with fail
      refine (HR.out _ _ _ _ w9 HX9.out HB9.out.size).mono ?_
      rintro e w10 ⟨rfl, hb⟩
      have HB10 := hide (HB9.out.trans (hb.mono HB9.out.size))
      have HX10 := hide (HX.out.below HB10.out)
      clear hb HB9 HX9
      go_wp2_with fail
      refine (HL2.out w10).mono ?_
      rintro e w11 ⟨rfl, hb⟩
      have HB11 := hide (HB10.out.trans (hb.mono HB10.out.size))
      have HX11 := hide (HX.out.below HB11.out)
      clear hb HB10 HX10
      go_wp2_with fail
      refine (HR.out _ _ _ _ w11 HX11.out HB11.out.size).mono ?_
      rintro e w12 ⟨rfl, hb⟩
      have HB12 := hide (HB11.out.trans (hb.mono HB11.out.size))
      have HX12 := hide (HX.out.below HB12.out)
      clear hb HB11 HX11
      go_wp2_with fail
      go_ret
      exact ⟨rfl, HB12.out⟩
  · obtain ⟨x, k, hv⟩ := varF_no (n := N) (by omega) hTz
    obtain ⟨t, ht7, hf⟩ := fixF_yes (n := N) (by omega) (by omega) hTz
    obtain ⟨sd, hd⟩ := decF_no g0 g1 (by omega)
    have HV := hide hv
    have HF := hide hf
    have HD := hide hd
    obtain ⟨htn, htn2⟩ := ne_empty (s := t) (by omega)
    clear hv hf hd
    rcases lastF hRz with ⟨z, hl⟩ | ⟨z, j, hj0, hj1, hl, hl2⟩
    · have HL := hide hl
      clear hl
      go_wp2_with fail
      refine (HN.out _ _ _ _ w HX.out (Nat.le_refl _)).mono ?_
      rintro e w1 ⟨rfl, hb⟩
      have HB1 := hide hb
      have HX1 := hide (HX.out.below HB1.out)
      clear hb
      go_wp2_with fail
      refine (HT.out _ _ _ _ w1 HX1.out HB1.out.size).mono ?_
      rintro e w2 ⟨rfl, hb⟩
      have HB2 := hide (HB1.out.trans (hb.mono HB1.out.size))
      have HX2 := hide (HX.out.below HB2.out)
      clear hb HB1 HX1
      go_wp2_with fail
      refine (HV.out.wr w2).mono ?_
      rintro e w3 ⟨rfl, hb⟩
      have HB3 := hide (HB2.out.trans (hb.mono HB2.out.size))
      have HX3 := hide (HX.out.below HB3.out)
      clear hb HB2 HX2
      go_wp2_with fail
      refine (HV.out.rd w3).mono ?_
      rintro e w' ⟨rfl, rfl⟩
      go_wp2_with fail
      refine (HF.out.wr w3).mono ?_
      rintro e w4 ⟨rfl, hb⟩
      have HB4 := hide (HB3.out.trans (hb.mono HB3.out.size))
      have HX4 := hide (HX.out.below HB4.out)
      clear hb HB3 HX3
      go_wp2_with fail
      refine (HF.out.rd w4).mono ?_
      rintro e w' ⟨rfl, rfl⟩
      go_wp2_with fail
      refine (HD.out.wr w4 (HTab.out.below HB4.out)).mono ?_
      rintro e w5 ⟨rfl, hb⟩
      have HB5 := hide (HB4.out.trans (hb.mono HB4.out.size))
      have HX5 := hide (HX.out.below HB5.out)
      clear hb HB4 HX4
      go_wp2_with fail
      refine (HD.out.rd w5 (HTab.out.below HB5.out) (HErr.out.below HB5.out)).mono ?_
      rintro e w6 ⟨rfl, hb⟩
      have HB6 := hide (HB5.out.trans (hb.mono HB5.out.size))
      have HX6 := hide (HX.out.below HB6.out)
      clear hb HB5 HX5
      go_wp2_with fail
      refine (HH.out.wr w6).mono ?_
      rintro e w7 ⟨rfl, hb⟩
      have HB7 := hide (HB6.out.trans (hb.mono HB6.out.size))
      have HX7 := hide (HX.out.below HB7.out)
      clear hb HB6 HX6
      go_wp2_with fail
      refine (HH.out.rd w7).mono ?_
      rintro e w8 ⟨rfl, hb⟩
      have HB8 := hide (HB7.out.trans (hb.mono HB7.out.size))
      have HX8 := hide (HX.out.below HB8.out)
      clear hb HB7 HX7
      go_wp2_with fail
      refine (HR.out _ _ _ _ w8 HX8.out HB8.out.size).mono ?_
      rintro e w9 ⟨rfl, hb⟩
      have HB9 := hide (HB8.out.trans (hb.mono HB8.out.size))
      have HX9 := hide (HX.out.below HB9.out)
      clear hb HB8 HX8
      go_wp2_with fail
      refine (HL.out w9).mono ?_
      rintro e w' ⟨rfl, rfl⟩
      go_wp2_with fail
      go_ret
      exact ⟨rfl, HB9.out⟩
    · have HL := hide hl
      have HL2 := hide hl2
      clear hl hl2
      go_wp2_with fail
      refine (HN.out _ _ _ _ w HX.out (Nat.le_refl _)).mono ?_
      rintro e w1 ⟨rfl, hb⟩
      have HB1 := hide hb
      have HX1 := hide (HX.out.below HB1.out)
      clear hb
      go_wp2_with fail
      refine (HT.out _ _ _ _ w1 HX1.out HB1.out.size).mono ?_
      rintro e w2 ⟨rfl, hb⟩
      have HB2 := hide (HB1.out.trans (hb.mono HB1.out.size))
      have HX2 := hide (HX.out.below HB2.out)
      clear hb HB1 HX1
      go_wp2_with fail
      refine (HV.out.wr w2).mono ?_
      rintro e w3 ⟨rfl, hb⟩
      have HB3 := hide (HB2.out.trans (hb.mono HB2.out.size))
      have HX3 := hide (HX.out.below HB3.out)
      clear hb HB2 HX2
      go_wp2_with fail
      refine (HV.out.rd w3).mono ?_
      rintro e w' ⟨rfl, rfl⟩
      go_wp2_with fail
      refine (HF.out.wr w3).mono ?_
      rintro e w4 ⟨rfl, hb⟩
      have HB4 := hide (HB3.out.trans (hb.mono HB3.out.size))
      have HX4 := hide (HX.out.below HB4.out)
      clear hb HB3 HX3
      go_wp2_with fail
      refine (HF.out.rd w4).mono ?_
      rintro e w' ⟨rfl, rfl⟩
      go_wp2_with fail
      refine (HD.out.wr w4 (HTab.out.below HB4.out)).mono ?_
      rintro e w5 ⟨rfl, hb⟩
      have HB5 := hide (HB4.out.trans (hb.mono HB4.out.size))
      have HX5 := hide (HX.out.below HB5.out)
      clear hb HB4 HX4
      go_wp2_with fail
      refine (HD.out.rd w5 (HTab.out.below HB5.out) (HErr.out.below HB5.out)).mono ?_
      rintro e w6 ⟨rfl, hb⟩
      have HB6 := hide (HB5.out.trans (hb.mono HB5.out.size))
      have HX6 := hide (HX.out.below HB6.out)
      clear hb HB5 HX5
      go_wp2_with fail
      refine (HH.out.wr w6).mono ?_
      rintro e w7 ⟨rfl, hb⟩
      have HB7 := hide (HB6.out.trans (hb.mono HB6.out.size))
      have HX7 := hide (HX.out.below HB7.out)
      clear hb HB6 HX6
      go_wp2_with fail
      refine (HH.out.rd w7).mono ?_
      rintro e w8 ⟨rfl, hb⟩
      have HB8 := hide (HB7.out.trans (hb.mono HB7.out.size))
      have HX8 := hide (HX.out.below HB8.out)
      clear hb HB7 HX7
      go_wp2_with fail
      refine (HR.out _ _ _ _ w8 HX8.out HB8.out.size).mono ?_
      rintro e w9 ⟨rfl, hb⟩
      have HB9 := hide (HB8.out.trans (hb.mono HB8.out.size))
      have HX9 := hide (HX.out.below HB9.out)
      clear hb HB8 HX8
      go_wp2_with fail
      refine (HL.out w9).mono ?_
      rintro e w' ⟨rfl, rfl⟩
      go_wp2_with fail
      refine (HR.out _ _ _ _ w9 HX9.out HB9.out.size).mono ?_
      rintro e w10 ⟨rfl, hb⟩
      have HB10 := hide (HB9.out.trans (hb.mono HB9.out.size))
      have HX10 := hide (HX.out.below HB10.out)
      clear hb HB9 HX9
      go_wp2_with fail
      refine (HL2.out w10).mono ?_
      rintro e w11 ⟨rfl, hb⟩
      have HB11 := hide (HB10.out.trans (hb.mono HB10.out.size))
      have HX11 := hide (HX.out.below HB11.out)
      clear hb HB10 HX10
      go_wp2_with fail
      refine (HR.out _ _ _ _ w11 HX11.out HB11.out.size).mono ?_
      rintro e w12 ⟨rfl, hb⟩
      have HB12 := hide (HB11.out.trans (hb.mono HB11.out.size))
      have HX12 := hide (HX.out.below HB12.out)
      clear hb HB11 HX11
      go_wp2_with fail
      go_ret
      exact ⟨rfl, HB12.out⟩
  · obtain ⟨x, k, hv⟩ := varF_no (n := N) (by omega) hTz
    obtain ⟨y, b, hf⟩ := fixF_no (n := N) g1 (by omega) hTz
    obtain ⟨sd, hd⟩ := decF_no g0 g1 (by omega)
    have HV := hide hv
    have HF := hide hf
    have HD := hide hd
    clear hv hf hd
    rcases lastF hRz with ⟨z, hl⟩ | ⟨z, j, hj0, hj1, hl, hl2⟩
    · have HL := hide hl
      clear hl
      go_wp2_with fail
      refine (HN.out _ _ _ _ w HX.out (Nat.le_refl _)).mono ?_
      rintro e w1 ⟨rfl, hb⟩
      have HB1 := hide hb
      have HX1 := hide (HX.out.below HB1.out)
      clear hb
      go_wp2_with fail
      refine (HT.out _ _ _ _ w1 HX1.out HB1.out.size).mono ?_
      rintro e w2 ⟨rfl, hb⟩
      have HB2 := hide (HB1.out.trans (hb.mono HB1.out.size))
      have HX2 := hide (HX.out.below HB2.out)
      clear hb HB1 HX1
      go_wp2_with fail
      refine (HV.out.wr w2).mono ?_
      rintro e w3 ⟨rfl, hb⟩
      have HB3 := hide (HB2.out.trans (hb.mono HB2.out.size))
      have HX3 := hide (HX.out.below HB3.out)
      clear hb HB2 HX2
      go_wp2_with fail
      refine (HV.out.rd w3).mono ?_
      rintro e w' ⟨rfl, rfl⟩
      go_wp2_with fail
      refine (HF.out.wr w3).mono ?_
      rintro e w4 ⟨rfl, hb⟩
      have HB4 := hide (HB3.out.trans (hb.mono HB3.out.size))
      have HX4 := hide (HX.out.below HB4.out)
      clear hb HB3 HX3
      go_wp2_with fail
      refine (HF.out.rd w4).mono ?_
      rintro e w' ⟨rfl, rfl⟩
      go_wp2_with fail
      refine (HD.out.wr w4 (HTab.out.below HB4.out)).mono ?_
      rintro e w5 ⟨rfl, hb⟩
      have HB5 := hide (HB4.out.trans (hb.mono HB4.out.size))
      have HX5 := hide (HX.out.below HB5.out)
      clear hb HB4 HX4
      go_wp2_with fail
      refine (HD.out.rd w5 (HTab.out.below HB5.out) (HErr.out.below HB5.out)).mono ?_
      rintro e w6 ⟨rfl, hb⟩
      have HB6 := hide (HB5.out.trans (hb.mono HB5.out.size))
      have HX6 := hide (HX.out.below HB6.out)
      clear hb HB5 HX5
      go_wp2_with fail
      refine (HH.out.wr w6).mono ?_
      rintro e w7 ⟨rfl, hb⟩
      have HB7 := hide (HB6.out.trans (hb.mono HB6.out.size))
      have HX7 := hide (HX.out.below HB7.out)
      clear hb HB6 HX6
      go_wp2_with fail
      refine (HH.out.rd w7).mono ?_
      rintro e w8 ⟨rfl, hb⟩
      have HB8 := hide (HB7.out.trans (hb.mono HB7.out.size))
      have HX8 := hide (HX.out.below HB8.out)
      clear hb HB7 HX7
      go_wp2_with fail
      refine (HR.out _ _ _ _ w8 HX8.out HB8.out.size).mono ?_
      rintro e w9 ⟨rfl, hb⟩
      have HB9 := hide (HB8.out.trans (hb.mono HB8.out.size))
      have HX9 := hide (HX.out.below HB9.out)
      clear hb HB8 HX8
      go_wp2_with fail
      refine (HL.out w9).mono ?_
      rintro e w' ⟨rfl, rfl⟩
      go_wp2_with fail
      go_ret
      exact ⟨rfl, HB9.out⟩
    · have HL := hide hl
      have HL2 := hide hl2
      clear hl hl2
      go_wp2_with fail
      refine (HN.out _ _ _ _ w HX.out (Nat.le_refl _)).mono ?_
      rintro e w1 ⟨rfl, hb⟩
      have HB1 := hide hb
      have HX1 := hide (HX.out.below HB1.out)
      clear hb
      go_wp2_with fail
      refine (HT.out _ _ _ _ w1 HX1.out HB1.out.size).mono ?_
      rintro e w2 ⟨rfl, hb⟩
      have HB2 := hide (HB1.out.trans (hb.mono HB1.out.size))
      have HX2 := hide (HX.out.below HB2.out)
      clear hb HB1 HX1
      go_wp2_with fail
      refine (HV.out.wr w2).mono ?_
      rintro e w3 ⟨rfl, hb⟩
      have HB3 := hide (HB2.out.trans (hb.mono HB2.out.size))
      have HX3 := hide (HX.out.below HB3.out)
      clear hb HB2 HX2
      go_wp2_with fail
      refine (HV.out.rd w3).mono ?_
      rintro e w' ⟨rfl, rfl⟩
      go_wp2_with fail
      refine (HF.out.wr w3).mono ?_
      rintro e w4 ⟨rfl, hb⟩
      have HB4 := hide (HB3.out.trans (hb.mono HB3.out.size))
      have HX4 := hide (HX.out.below HB4.out)
      clear hb HB3 HX3
      go_wp2_with fail
      refine (HF.out.rd w4).mono ?_
      rintro e w' ⟨rfl, rfl⟩
      go_wp2_with fail
      refine (HD.out.wr w4 (HTab.out.below HB4.out)).mono ?_
      rintro e w5 ⟨rfl, hb⟩
      have HB5 := hide (HB4.out.trans (hb.mono HB4.out.size))
      have HX5 := hide (HX.out.below HB5.out)
      clear hb HB4 HX4
      go_wp2_with fail
      refine (HD.out.rd w5 (HTab.out.below HB5.out) (HErr.out.below HB5.out)).mono ?_
      rintro e w6 ⟨rfl, hb⟩
      have HB6 := hide (HB5.out.trans (hb.mono HB5.out.size))
      have HX6 := hide (HX.out.below HB6.out)
      clear hb HB5 HX5
      go_wp2_with fail
      refine (HH.out.wr w6).mono ?_
      rintro e w7 ⟨rfl, hb⟩
      have HB7 := hide (HB6.out.trans (hb.mono HB6.out.size))
      have HX7 := hide (HX.out.below HB7.out)
      clear hb HB6 HX6
      go_wp2_with fail
      refine (HH.out.rd w7).mono ?_
      rintro e w8 ⟨rfl, hb⟩
      have HB8 := hide (HB7.out.trans (hb.mono HB7.out.size))
      have HX8 := hide (HX.out.below HB8.out)
      clear hb HB7 HX7
      go_wp2_with fail
      refine (HR.out _ _ _ _ w8 HX8.out HB8.out.size).mono ?_
      rintro e w9 ⟨rfl, hb⟩
      have HB9 := hide (HB8.out.trans (hb.mono HB8.out.size))
      have HX9 := hide (HX.out.below HB9.out)
      clear hb HB8 HX8
      go_wp2_with fail
      refine (HL.out w9).mono ?_
      rintro e w' ⟨rfl, rfl⟩
      go_wp2_with fail
      refine (HR.out _ _ _ _ w9 HX9.out HB9.out.size).mono ?_
      rintro e w10 ⟨rfl, hb⟩
      have HB10 := hide (HB9.out.trans (hb.mono HB9.out.size))
      have HX10 := hide (HX.out.below HB10.out)
      clear hb HB9 HX9
      go_wp2_with fail
      refine (HL2.out w10).mono ?_
      rintro e w11 ⟨rfl, hb⟩
      have HB11 := hide (HB10.out.trans (hb.mono HB10.out.size))
      have HX11 := hide (HX.out.below HB11.out)
      clear hb HB10 HX10
      go_wp2_with fail
      refine (HR.out _ _ _ _ w11 HX11.out HB11.out.size).mono ?_
      rintro e w12 ⟨rfl, hb⟩
      have HB12 := hide (HB11.out.trans (hb.mono HB11.out.size))
      have HX12 := hide (HX.out.below HB12.out)
      clear hb HB11 HX11
      go_wp2_with fail
      go_ret
      exact ⟨rfl, HB12.out⟩
  · obtain ⟨x, k, hv⟩ := varF_no (n := N) (by omega) hTz
    obtain ⟨y, b, hf⟩ := fixF_no (n := N) g1 (by omega) hTz
    obtain ⟨sd, hd⟩ := decF_yes (n := N) (by omega) (by omega)
    have HV := hide hv
    have HF := hide hf
    have HD := hide hd
    clear hv hf hd
    rcases lastF hRz with ⟨z, hl⟩ | ⟨z, j, hj0, hj1, hl, hl2⟩
    · have HL := hide hl
      clear hl
      go_wp2_with fail
      refine (HN.out _ _ _ _ w HX.out (Nat.le_refl _)).mono ?_
      rintro e w1 ⟨rfl, hb⟩
      have HB1 := hide hb
      have HX1 := hide (HX.out.below HB1.out)
      clear hb
      go_wp2_with fail
      refine (HT.out _ _ _ _ w1 HX1.out HB1.out.size).mono ?_
      rintro e w2 ⟨rfl, hb⟩
      have HB2 := hide (HB1.out.trans (hb.mono HB1.out.size))
      have HX2 := hide (HX.out.below HB2.out)
      clear hb HB1 HX1
      go_wp2_with fail
      refine (HV.out.wr w2).mono ?_
      rintro e w3 ⟨rfl, hb⟩
      have HB3 := hide (HB2.out.trans (hb.mono HB2.out.size))
      have HX3 := hide (HX.out.below HB3.out)
      clear hb HB2 HX2
      go_wp2_with fail
      refine (HV.out.rd w3).mono ?_
      rintro e w' ⟨rfl, rfl⟩
      go_wp2_with fail
      refine (HF.out.wr w3).mono ?_
      rintro e w4 ⟨rfl, hb⟩
      have HB4 := hide (HB3.out.trans (hb.mono HB3.out.size))
      have HX4 := hide (HX.out.below HB4.out)
      clear hb HB3 HX3
      go_wp2_with fail
      refine (HF.out.rd w4).mono ?_
      rintro e w' ⟨rfl, rfl⟩
      go_wp2_with fail
      refine (HD.out.wr w4 (HTab.out.below HB4.out)).mono ?_
      rintro e w5 ⟨rfl, hb⟩
      have HB5 := hide (HB4.out.trans (hb.mono HB4.out.size))
      have HX5 := hide (HX.out.below HB5.out)
      clear hb HB4 HX4
      go_wp2_with fail
      refine (HD.out.rd w5 (HTab.out.below HB5.out) (HErr.out.below HB5.out)).mono ?_
      rintro e w6 ⟨rfl, hb⟩
      have HB6 := hide (HB5.out.trans (hb.mono HB5.out.size))
      have HX6 := hide (HX.out.below HB6.out)
      clear hb HB5 HX5
      go_wp2_with fail
      refine (HH.out.wr w6).mono ?_
      rintro e w7 ⟨rfl, hb⟩
      have HB7 := hide (HB6.out.trans (hb.mono HB6.out.size))
      have HX7 := hide (HX.out.below HB7.out)
      clear hb HB6 HX6
      go_wp2_with fail
      refine (HH.out.rd w7).mono ?_
      rintro e w8 ⟨rfl, hb⟩
      have HB8 := hide (HB7.out.trans (hb.mono HB7.out.size))
      have HX8 := hide (HX.out.below HB8.out)
      clear hb HB7 HX7
      go_wp2_with fail
      refine (HR.out _ _ _ _ w8 HX8.out HB8.out.size).mono ?_
      rintro e w9 ⟨rfl, hb⟩
      have HB9 := hide (HB8.out.trans (hb.mono HB8.out.size))
      have HX9 := hide (HX.out.below HB9.out)
      clear hb HB8 HX8
      go_wp2_with fail
      refine (HL.out w9).mono ?_
      rintro e w' ⟨rfl, rfl⟩
      go_wp2_with fail
      go_ret
      exact ⟨rfl, HB9.out⟩
    · have HL := hide hl
      have HL2 := hide hl2
      clear hl hl2
      go_wp2_with fail
      refine (HN.out _ _ _ _ w HX.out (Nat.le_refl _)).mono ?_
      rintro e w1 ⟨rfl, hb⟩
      have HB1 := hide hb
      have HX1 := hide (HX.out.below HB1.out)
      clear hb
      go_wp2_with fail
      refine (HT.out _ _ _ _ w1 HX1.out HB1.out.size).mono ?_
      rintro e w2 ⟨rfl, hb⟩
      have HB2 := hide (HB1.out.trans (hb.mono HB1.out.size))
      have HX2 := hide (HX.out.below HB2.out)
      clear hb HB1 HX1
      go_wp2_with fail
      refine (HV.out.wr w2).mono ?_
      rintro e w3 ⟨rfl, hb⟩
      have HB3 := hide (HB2.out.trans (hb.mono HB2.out.size))
      have HX3 := hide (HX.out.below HB3.out)
      clear hb HB2 HX2
      go_wp2_with fail
      refine (HV.out.rd w3).mono ?_
      rintro e w' ⟨rfl, rfl⟩
      go_wp2_with fail
      refine (HF.out.wr w3).mono ?_
      rintro e w4 ⟨rfl, hb⟩
      have HB4 := hide (HB3.out.trans (hb.mono HB3.out.size))
      have HX4 := hide (HX.out.below HB4.out)
      clear hb HB3 HX3
      go_wp2_with fail
      refine (HF.out.rd w4).mono ?_
      rintro e w' ⟨rfl, rfl⟩
      go_wp2_with fail
      refine (HD.out.wr w4 (HTab.out.below HB4.out)).mono ?_
      rintro e w5 ⟨rfl, hb⟩
      have HB5 := hide (HB4.out.trans (hb.mono HB4.out.size))
      have HX5 := hide (HX.out.below HB5.out)
      clear hb HB4 HX4
      go_wp2_with fail
      refine (HD.out.rd w5 (HTab.out.below HB5.out) (HErr.out.below HB5.out)).mono ?_
      rintro e w6 ⟨rfl, hb⟩
      have HB6 := hide (HB5.out.trans (hb.mono HB5.out.size))
      have HX6 := hide (HX.out.below HB6.out)
      clear hb HB5 HX5
      go_wp2_with fail
      refine (HH.out.wr w6).mono ?_
      rintro e w7 ⟨rfl, hb⟩
      have HB7 := hide (HB6.out.trans (hb.mono HB6.out.size))
      have HX7 := hide (HX.out.below HB7.out)
      clear hb HB6 HX6
      go_wp2_with fail
      refine (HH.out.rd w7).mono ?_
      rintro e w8 ⟨rfl, hb⟩
      have HB8 := hide (HB7.out.trans (hb.mono HB7.out.size))
      have HX8 := hide (HX.out.below HB8.out)
      clear hb HB7 HX7
      go_wp2_with fail
      refine (HR.out _ _ _ _ w8 HX8.out HB8.out.size).mono ?_
      rintro e w9 ⟨rfl, hb⟩
      have HB9 := hide (HB8.out.trans (hb.mono HB8.out.size))
      have HX9 := hide (HX.out.below HB9.out)
      clear hb HB8 HX8
      go_wp2_with fail
      refine (HL.out w9).mono ?_
      rintro e w' ⟨rfl, rfl⟩
      go_wp2_with fail
      refine (HR.out _ _ _ _ w9 HX9.out HB9.out.size).mono ?_
      rintro e w10 ⟨rfl, hb⟩
      have HB10 := hide (HB9.out.trans (hb.mono HB9.out.size))
      have HX10 := hide (HX.out.below HB10.out)
      clear hb HB9 HX9
      go_wp2_with fail
      refine (HL2.out w10).mono ?_
      rintro e w11 ⟨rfl, hb⟩
      have HB11 := hide (HB10.out.trans (hb.mono HB10.out.size))
      have HX11 := hide (HX.out.below HB11.out)
      clear hb HB10 HX10
      go_wp2_with fail
      refine (HR.out _ _ _ _ w11 HX11.out HB11.out.size).mono ?_
      rintro e w12 ⟨rfl, hb⟩
      have HB12 := hide (HB11.out.trans (hb.mono HB11.out.size))
      have HX12 := hide (HX.out.below HB12.out)
      clear hb HB11 HX11
      go_wp2_with fail
      go_ret
      exact ⟨rfl, HB12.out⟩
  · obtain ⟨x, k, hv⟩ := varF_no (n := N) (by omega) hTz
    obtain ⟨y, b, hf⟩ := fixF_no (n := N) g1 (by omega) hTz
    obtain ⟨sd, hd⟩ := decF_no g0 g1 (by omega)
    have HV := hide hv
    have HF := hide hf
    have HD := hide hd
    clear hv hf hd
    rcases lastF hRz with ⟨z, hl⟩ | ⟨z, j, hj0, hj1, hl, hl2⟩
    · have HL := hide hl
      clear hl
      go_wp2_with fail
      refine (HN.out _ _ _ _ w HX.out (Nat.le_refl _)).mono ?_
      rintro e w1 ⟨rfl, hb⟩
      have HB1 := hide hb
      have HX1 := hide (HX.out.below HB1.out)
      clear hb
      go_wp2_with fail
      refine (HT.out _ _ _ _ w1 HX1.out HB1.out.size).mono ?_
      rintro e w2 ⟨rfl, hb⟩
      have HB2 := hide (HB1.out.trans (hb.mono HB1.out.size))
      have HX2 := hide (HX.out.below HB2.out)
      clear hb HB1 HX1
      go_wp2_with fail
      refine (HV.out.wr w2).mono ?_
      rintro e w3 ⟨rfl, hb⟩
      have HB3 := hide (HB2.out.trans (hb.mono HB2.out.size))
      have HX3 := hide (HX.out.below HB3.out)
      clear hb HB2 HX2
      go_wp2_with fail
      refine (HV.out.rd w3).mono ?_
      rintro e w' ⟨rfl, rfl⟩
      go_wp2_with fail
      refine (HF.out.wr w3).mono ?_
      rintro e w4 ⟨rfl, hb⟩
      have HB4 := hide (HB3.out.trans (hb.mono HB3.out.size))
      have HX4 := hide (HX.out.below HB4.out)
      clear hb HB3 HX3
      go_wp2_with fail
      refine (HF.out.rd w4).mono ?_
      rintro e w' ⟨rfl, rfl⟩
      go_wp2_with fail
      refine (HD.out.wr w4 (HTab.out.below HB4.out)).mono ?_
      rintro e w5 ⟨rfl, hb⟩
      have HB5 := hide (HB4.out.trans (hb.mono HB4.out.size))
      have HX5 := hide (HX.out.below HB5.out)
      clear hb HB4 HX4
      go_wp2_with fail
      refine (HD.out.rd w5 (HTab.out.below HB5.out) (HErr.out.below HB5.out)).mono ?_
      rintro e w6 ⟨rfl, hb⟩
      have HB6 := hide (HB5.out.trans (hb.mono HB5.out.size))
      have HX6 := hide (HX.out.below HB6.out)
      clear hb HB5 HX5
      go_wp2_with fail
      refine (HH.out.wr w6).mono ?_
      rintro e w7 ⟨rfl, hb⟩
      have HB7 := hide (HB6.out.trans (hb.mono HB6.out.size))
      have HX7 := hide (HX.out.below HB7.out)
      clear hb HB6 HX6
      go_wp2_with fail
      refine (HH.out.rd w7).mono ?_
      rintro e w8 ⟨rfl, hb⟩
      have HB8 := hide (HB7.out.trans (hb.mono HB7.out.size))
      have HX8 := hide (HX.out.below HB8.out)
      clear hb HB7 HX7
      go_wp2_with fail
      refine (HR.out _ _ _ _ w8 HX8.out HB8.out.size).mono ?_
      rintro e w9 ⟨rfl, hb⟩
      have HB9 := hide (HB8.out.trans (hb.mono HB8.out.size))
      have HX9 := hide (HX.out.below HB9.out)
      clear hb HB8 HX8
      go_wp2_with fail
      refine (HL.out w9).mono ?_
      rintro e w' ⟨rfl, rfl⟩
      go_wp2_with fail
      go_ret
      exact ⟨rfl, HB9.out⟩
    · have HL := hide hl
      have HL2 := hide hl2
      clear hl hl2
      go_wp2_with fail
      refine (HN.out _ _ _ _ w HX.out (Nat.le_refl _)).mono ?_
      rintro e w1 ⟨rfl, hb⟩
      have HB1 := hide hb
      have HX1 := hide (HX.out.below HB1.out)
      clear hb
      go_wp2_with fail
      refine (HT.out _ _ _ _ w1 HX1.out HB1.out.size).mono ?_
      rintro e w2 ⟨rfl, hb⟩
      have HB2 := hide (HB1.out.trans (hb.mono HB1.out.size))
      have HX2 := hide (HX.out.below HB2.out)
      clear hb HB1 HX1
      go_wp2_with fail
      refine (HV.out.wr w2).mono ?_
      rintro e w3 ⟨rfl, hb⟩
      have HB3 := hide (HB2.out.trans (hb.mono HB2.out.size))
      have HX3 := hide (HX.out.below HB3.out)
      clear hb HB2 HX2
      go_wp2_with fail
      refine (HV.out.rd w3).mono ?_
      rintro e w' ⟨rfl, rfl⟩
      go_wp2_with fail
      refine (HF.out.wr w3).mono ?_
      rintro e w4 ⟨rfl, hb⟩
      have HB4 := hide (HB3.out.trans (hb.mono HB3.out.size))
      have HX4 := hide (HX.out.below HB4.out)
      clear hb HB3 HX3
      go_wp2_with fail
      refine (HF.out.rd w4).mono ?_
      rintro e w' ⟨rfl, rfl⟩
      go_wp2_with fail
      refine (HD.out.wr w4 (HTab.out.below HB4.out)).mono ?_
      rintro e w5 ⟨rfl, hb⟩
      have HB5 := hide (HB4.out.trans (hb.mono HB4.out.size))
      have HX5 := hide (HX.out.below HB5.out)
      clear hb HB4 HX4
      go_wp2_with fail
      refine (HD.out.rd w5 (HTab.out.below HB5.out) (HErr.out.below HB5.out)).mono ?_
      rintro e w6 ⟨rfl, hb⟩
      have HB6 := hide (HB5.out.trans (hb.mono HB5.out.size))
      have HX6 := hide (HX.out.below HB6.out)
      clear hb HB5 HX5
      go_wp2_with fail
      refine (HH.out.wr w6).mono ?_
      rintro e w7 ⟨rfl, hb⟩
      have HB7 := hide (HB6.out.trans (hb.mono HB6.out.size))
      have HX7 := hide (HX.out.below HB7.out)
      clear hb HB6 HX6
      go_wp2_with fail
      refine (HH.out.rd w7).mono ?_
      rintro e w8 ⟨rfl, hb⟩
      have HB8 := hide (HB7.out.trans (hb.mono HB7.out.size))
      have HX8 := hide (HX.out.below HB8.out)
      clear hb HB7 HX7
      go_wp2_with fail
      refine (HR.out _ _ _ _ w8 HX8.out HB8.out.size).mono ?_
      rintro e w9 ⟨rfl, hb⟩
      have HB9 := hide (HB8.out.trans (hb.mono HB8.out.size))
      have HX9 := hide (HX.out.below HB9.out)
      clear hb HB8 HX8
      go_wp2_with fail
      refine (HL.out w9).mono ?_
      rintro e w' ⟨rfl, rfl⟩
      go_wp2_with fail
      refine (HR.out _ _ _ _ w9 HX9.out HB9.out.size).mono ?_
      rintro e w10 ⟨rfl, hb⟩
      have HB10 := hide (HB9.out.trans (hb.mono HB9.out.size))
      have HX10 := hide (HX.out.below HB10.out)
      clear hb HB9 HX9
      go_wp2_with fail
      refine (HL2.out w10).mono ?_
      rintro e w11 ⟨rfl, hb⟩
      have HB11 := hide (HB10.out.trans (hb.mono HB10.out.size))
      have HX11 := hide (HX.out.below HB11.out)
      clear hb HB10 HX10
      go_wp2_with fail
      refine (HR.out _ _ _ _ w11 HX11.out HB11.out.size).mono ?_
      rintro e w12 ⟨rfl, hb⟩
      have HB12 := hide (HB11.out.trans (hb.mono HB11.out.size))
      have HX12 := hide (HX.out.below HB12.out)
      clear hb HB11 HX11
      go_wp2_with fail
      go_ret
      exact ⟨rfl, HB12.out⟩
set_option maxRecDepth 100000 in
theorem lifted (os : Os) (started : os.Started) (H : Type) (enc : TypeId × Value → H) :
    ReturnsInHanded {} Tryd.checked os 8 .any (fun w args => (Rows.fnNumbersSpec.pre enc Tryd.prog Tryd.f8 [] false w args ∧ laidMetH Tryd.prog laid5 w) ∧ sizedMet enc Tryd.prog Tryd.f8 (OpenSpec.ofChange Rows.fnNumbersSpec) false w args) (Rows.fnNumbersSpec.post enc Tryd.prog Tryd.f8 false true false false) := by
  refine law_liftedD (C := Tryd.checked) (f := 8) (fn := Tryd.f8) (tb := 4) laid5 os (by kernel_rfl) started (by kernel_rfl) Tryd.func8 (by kernel_rfl) (by kernel_rfl) rfl Tryd.underlying4 rfl (fun H ds h => ?_) H enc
    (ChangeSpec.witness_shaped (enc := enc) (C := Tryd.checked) (os := os) (X := fun w _ => laidMetH Tryd.prog laid5 w) false (World.doorLaid Tryd.prog 400 os) #[.slice none 0 0] 8 rfl (shaped os _) (by kernel_rfl) (by kernel_rfl) (by kernel_rfl) (met5 os _)) ?_
  · rw [show Tryd.f8.params.size = 1 from by kernel_rfl] at h
    match ds, h with
    | [d0], _ => rfl
  intro W base args ds ps hval hA hlt hL
  have hval : ∀ (j : Nat) t v, Tryd.f8.params[j]? = some t → args[j]? = some v → Value.okWide Tryd.prog W .any base t v := hval
  have hA : DataW.TrodAll enc Tryd.prog W 0 (fun _ => true) true Tryd.f8.params.toList args.toList ds ps := hA
  rw [Tryd.params8] at hA hval
  obtain ⟨v0, vs0, d0, ds0, p0, q0, hargs, rfl, rfl, h0, r0⟩ := trodAll_cons hA
  obtain ⟨rfl, rfl, rfl⟩ := trodAll_nil r0
  obtain rfl : args = #[v0] := by cases args; simp_all
  obtain ⟨A0, n0, c0, rfl, hC0⟩ := openB Tryd.underlying22 Tryd.underlying5 cells_u8 (hval 0 22 v0 rfl rfl) h0 (fun x hx => hlt x (by simp [hx]))
  obtain ⟨hT, hE⟩ := of5 hL
  exact walk W hC0 hT hE
theorem row : Rows.FnNumbersSaid :=
  OpenClaim.holds_of_wide 8 Tryd.f8 rfl rfl rfl rfl rfl rfl rfl ⟨rfl, rfl, rfl, rfl, rfl⟩ rfl rfl rfl rfl rfl (by kernel_rfl) Tryd.func8 (by kernel_rfl)
    (of_decide_eq_true (by kernel_rfl)) (by unfold Func.isWrapper; first | (rw [if_pos (by decide +kernel)]; kernel_rfl) | (rw [if_neg (by decide +kernel)]; exact ⟨rfl, rfl⟩))
    (fun os started H enc _ => lifted os started H enc)
theorem proved : Rows.FnNumbersCardSaid :=
  Claim7.holds_tied_plain_at .later [] [.data, .data, .data, .sentinel, .sentinel] true (true, "0b9631ded2428b8eea604e724161e2b49231ce82670f86e4ba093ddb88f05c4a") true
    row (fun _ h => by cases h) (by kernel_rfl) (fun _ h => by cases h) fnNumbers_row_tie rfl ⟨rfl, rfl⟩ (by kernel_rfl) rfl
    (fun f fn hf hfn => by
      obtain rfl : f = 8 := Option.some.inj ((show Tryd.prog.funcNamed "loop.example/g01407/laws.FnNumbers" = some 8 by kernel_rfl).symm.trans hf) |>.symm
      obtain rfl : fn = Tryd.f8 := (Option.some.inj (Tryd.func8.symm.trans hfn)).symm
      exact ⟨by kernel_rfl, fun j t ht => by
        rw [Tryd.params8] at ht
        have hm : t ∈ [22] := by simpa using Array.mem_of_getElem? ht
        have hall : ([22].all fun u => !Tryd.prog.wantsStandIn u) = true := by kernel_rfl
        exact (show Tryd.prog.wantsStandIn t = false by simpa using List.all_eq_true.1 hall t hm)⟩)
    (by kernel_rfl)
#print axioms proved
end Go.Proofs.YtgfieeonlhcnhaaDoor.fnNumbers
