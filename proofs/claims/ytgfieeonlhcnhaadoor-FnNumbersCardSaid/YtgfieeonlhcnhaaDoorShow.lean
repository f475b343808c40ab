/-
  ShowFix, both.
-/
import Derived.Test.YtgfieeonlhcnhaaDoorDecI
import Derived.Test.YtgfieeonlhcnhaaDoorDecS
import Derived.Test.YtgfieeonlhcnhaaDoorFix
import Derived.Test.YtgfieeonlhcnhaaDoorPlainG
import Derived.WalkKit
namespace Go.Proofs.YtgfieeonlhcnhaaDoor
open Go.RowKit
set_option maxRecDepth 100000
theorem spec_dec_str (n : Int) (h0 : -999999999 ≤ n) (h1 : n ≤ 999999999) : ∃ x : ByteArray, x.size ≤ 10 ∧ Hid (x = ⟨(Lib.itoa n).toArray⟩) ∧ Hid (∀ w, Calls Tryd.prog 15 #[.int .i64 n] w fun e w' => e = .returned (.string x) ∧ Below w.heap.size w w') :=
  ⟨⟨(Lib.itoa n).toArray⟩, by have := itoa_len10 h0 h1; show (Lib.itoa n).toArray.size ≤ 10; simpa using this, rfl, fun w => spec_Dec n (by omega) (by omega) w⟩
theorem impl_dec_str (n : Int) (h0 : -999999999 ≤ n) (h1 : n ≤ 999999999) : ∃ x : ByteArray, x.size ≤ 10 ∧ Hid (x = ⟨(Lib.itoa n).toArray⟩) ∧ Hid (∀ w, Tab w → Calls Tryd.prog 16 #[.int .i64 n] w fun e w' => e = .returned (.string x) ∧ Below w.heap.size w w') :=
  ⟨⟨(Lib.itoa n).toArray⟩, by have := itoa_len10 h0 h1; show (Lib.itoa n).toArray.size ≤ 10; simpa using this, rfl, fun w hT => impl_Dec n (by omega) (by omega) w hT⟩
theorem spec_ShowFix (n : Int) (g0 : -9223372036854775808 ≤ n) (g1 : n ≤ 9223372036854775807) (w : World) :
    Calls Tryd.prog 19 #[.int .i64 n] w fun e w' => e = .returned (.string (showS n)) ∧ Below w.heap.size w w' := by
  by_cases hr : -2147483647 ≤ n ∧ n ≤ 2147483647
  case neg =>
    have HS := hide (showS_no hr)
    have hok := fxOk_no hr
    go_enter Tryd.func19, Tryd.ntmps19
    go_wp2_with fail
    refine (spec_FixOk n w).mono ?_
    rintro e w1 ⟨rfl, rfl⟩
    go_wp2_with fail
    go_ret
    exact ⟨by rw [HS.out]; rfl, Below.refl _ _⟩
  obtain ⟨h0, h1⟩ := hr
  have hok := fxOk_yes h0 h1
  have HS := hide (showS_ok h0 h1)
  obtain ⟨m, hm⟩ : ∃ m : Nat, m = n.natAbs := ⟨_, rfl⟩
  obtain ⟨x1, hz1, HX1, D1⟩ := spec_dec_str ((m / 65536 : Nat) : Int) (by omega) (by omega)
  obtain ⟨x2, hz2, HX2, D2⟩ := spec_dec_str ((m % 65536 : Nat) : Int) (by omega) (by omega)
  by_cases hn : n < 0
  · have hL : showL n = 45 :: (Lib.itoa (m / 65536 : Nat) ++ 43 :: Lib.itoa (m % 65536 : Nat)) := by rw [showL, if_pos hn, hm]; rfl
    have HL := hide hL
    obtain rfl : n = -(m : Int) := by omega
    clear hL hm
    go_enter Tryd.func19, Tryd.ntmps19
    go_wp2_with fail
    refine (spec_FixOk _ w).mono ?_
    rintro e w1 ⟨rfl, rfl⟩
    go_wp2_with fail
    refine (D1.out w).mono ?_
    rintro e w1 ⟨rfl, hb1⟩
    go_wp2_with fail
    refine (D2.out w1).mono ?_
    rintro e w2 ⟨rfl, hb2⟩
    go_wp2_with fail
    go_ret
    exact ⟨by rw [HS.out, HL.out, HX1.out, HX2.out, ← cat_neg]; rfl, hb1.trans (hb2.mono hb1.size)⟩
  · have hL : showL n = Lib.itoa (m / 65536 : Nat) ++ 43 :: Lib.itoa (m % 65536 : Nat) := by rw [showL, if_neg hn, hm]; rfl
    have HL := hide hL
    obtain rfl : n = (m : Int) := by omega
    clear hL hm
    go_enter Tryd.func19, Tryd.ntmps19
    go_wp2_with fail
    refine (spec_FixOk _ w).mono ?_
    rintro e w1 ⟨rfl, rfl⟩
    go_wp2_with fail
    refine (D1.out w).mono ?_
    rintro e w1 ⟨rfl, hb1⟩
    go_wp2_with fail
    refine (D2.out w1).mono ?_
    rintro e w2 ⟨rfl, hb2⟩
    go_wp2_with fail
    go_ret
    exact ⟨by rw [HS.out, HL.out, HX1.out, HX2.out, ← cat_pos]; rfl, hb1.trans (hb2.mono hb1.size)⟩
theorem impl_ShowFix (n : Int) (g0 : -9223372036854775808 ≤ n) (g1 : n ≤ 9223372036854775807) (w : World) (hT : Tab w) :
    Calls Tryd.prog 11 #[.int .i64 n] w fun e w' => e = .returned (.string (showS n)) ∧ Below w.heap.size w w' := by
  by_cases hr : -2147483647 ≤ n ∧ n ≤ 2147483647
  case neg =>
    have HS := hide (showS_no hr)
    have hok := fxOk_no hr
    go_enter Tryd.func11, Tryd.ntmps11
    go_wp2_with fail
    refine (impl_FixOk n w).mono ?_
    rintro e w1 ⟨rfl, rfl⟩
    go_wp2_with fail
    go_ret
    exact ⟨by rw [HS.out]; rfl, Below.refl _ _⟩
  obtain ⟨h0, h1⟩ := hr
  have hok := fxOk_yes h0 h1
  have HS := hide (showS_ok h0 h1)
  obtain ⟨m, hm⟩ : ∃ m : Nat, m = n.natAbs := ⟨_, rfl⟩
  obtain ⟨x1, hz1, HX1, D1⟩ := impl_dec_str ((m / 65536 : Nat) : Int) (by omega) (by omega)
  obtain ⟨x2, hz2, HX2, D2⟩ := impl_dec_str ((m % 65536 : Nat) : Int) (by omega) (by omega)
  by_cases hn : n < 0
  · have hL : showL n = 45 :: (Lib.itoa (m / 65536 : Nat) ++ 43 :: Lib.itoa (m % 65536 : Nat)) := by rw [showL, if_pos hn, hm]; rfl
    have HL := hide hL
    obtain rfl : n = -(m : Int) := by omega
    clear hL hm
    go_enter Tryd.func11, Tryd.ntmps11
    go_wp2_with fail
    refine (impl_FixOk _ w).mono ?_
    rintro e w1 ⟨rfl, rfl⟩
    go_wp2_with fail
    refine (D1.out w hT).mono ?_
    rintro e w1 ⟨rfl, hb1⟩
    go_wp2_with fail
    refine (D2.out w1 (hT.below hb1)).mono ?_
    rintro e w2 ⟨rfl, hb2⟩
    go_wp2_with fail
    go_ret
    exact ⟨by rw [HS.out, HL.out, HX1.out, HX2.out, ← cat_neg]; rfl, hb1.trans (hb2.mono hb1.size)⟩
  · have hL : showL n = Lib.itoa (m / 65536 : Nat) ++ 43 :: Lib.itoa (m % 65536 : Nat) := by rw [showL, if_neg hn, hm]; rfl
    have HL := hide hL
    obtain rfl : n = (m : Int) := by omega
    clear hL hm
    go_enter Tryd.func11, Tryd.ntmps11
    go_wp2_with fail
    refine (impl_FixOk _ w).mono ?_
    rintro e w1 ⟨rfl, rfl⟩
    go_wp2_with fail
    refine (D1.out w hT).mono ?_
    rintro e w1 ⟨rfl, hb1⟩
    go_wp2_with fail
    refine (D2.out w1 (hT.below hb1)).mono ?_
    rintro e w2 ⟨rfl, hb2⟩
    go_wp2_with fail
    go_ret
    exact ⟨by rw [HS.out, HL.out, HX1.out, HX2.out, ← cat_pos]; rfl, hb1.trans (hb2.mono hb1.size)⟩
end Go.Proofs.YtgfieeonlhcnhaaDoor
