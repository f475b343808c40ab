/-
  The contracts of the functions that read and make texts of numbers.
-/
import Derived.Test.YtomlkcljdacfkaaProg
import Derived.Test.YtomlkcljdacfkaaFix
import Derived.Test.YtomlkcljdacfkaaPlainS
import Derived.Test.YtomlkcljdacfkaaMem
import Derived.WalkKit
namespace Go.Proofs.Ytomlkcljdacfkaa
open Go.RowKit

theorem impl_ReadFixed_no (s : ByteArray) (n : Int) (w : World) (_hs : s.size ≤ maxLen) (h : n < 1 ∨ 7 < n ∨ (s.size : Int) < n) :
    Calls Try.prog 27 #[.string s, .int .i64 n] w fun e w' => e = .returned (.tuple #[.int .i64 0, .bool false]) ∧ w = w' := by
  unfold maxLen at _hs
  go_enter Try.func27, Try.ntmps27
  go_wp2
  all_goals go_ret2
  all_goals exact ⟨rfl, rfl⟩
theorem impl_ReadFixed_yes (s : ByteArray) (n : Nat) (w : World) (hs : s.size ≤ maxLen) (h1 : 1 ≤ n) (h2 : n ≤ 7) (h3 : n ≤ s.size) :
    Calls Try.prog 27 #[.string s, .int .i64 (n : Int)] w fun e w' => e = .returned (.tuple #[.int .i64 (rd (s.data.toList.take n)), .bool true]) ∧ w = w' := by
  unfold maxLen at hs
  go_enter Try.func27, Try.ntmps27
  go_wp2
  go_loop [6, 7] (fun t i => ∃ k : Nat, k ≤ n ∧ i = .int .i64 k ∧ t = .int .i64 (rd (s.data.toList.take k))) (fun _ i => n - (intOf i).toNat)
  case atStart => exact ⟨0, Nat.zero_le _, rfl, rfl⟩
  case round =>
    obtain ⟨k, hk, rfl, rfl⟩ := hrel
    by_cases hlt : k < n
    · have hb := rd_take6 s.data.toList k (by omega)
      have hb0 := rd_nonneg (s.data.toList.take k)
      have hks : k < s.size := by omega
      have HS := hide (show rd (s.data.toList.take (k + 1)) = 256 * rd (s.data.toList.take k) + (s[k].toNat : Int) from by rw [take_snoc s k hks, rd_snoc])
      have hbk := s[k].toNat_lt
      go_wp2
      go_round
      case rel => exact ⟨k + 1, by omega, by go_num, by rw [HS.out]⟩
      case measure => simp [intOf]; omega
    · have hkn : n ≤ k := by omega
      go_wp2
      go_ret2
      exact ⟨rIB (by rw [show k = n from by omega]) rfl, rfl⟩

theorem u8_info : (Try.prog.info? 5).map (fun i => (i.zero, i.size, i.bytes)) = some (some (.int .u8 0), 1, 1) := by kernel_rfl
theorem impl_Var_no (n : Int) (w : World) (h : n < 0 ∨ 562949953421311 < n) :
    Calls Try.prog 29 #[.int .i64 n] w fun e w' => e = .returned (.string ByteArray.empty) ∧ w = w' := by
  go_enter Try.func29, Try.ntmps29
  go_wp2
  all_goals go_ret
  all_goals exact ⟨rfl, rfl⟩
theorem impl_Var_yes (n : Int) (w : World) (h0 : 0 ≤ n) (h1 : n ≤ 562949953421311) :
    Calls Try.prog 29 #[.int .i64 n] w fun e w' => e = .returned (.string (strOfNums (varI n.toNat))) ∧ Below w.heap.size w w' := by
  have HL := hide (varI_len 6 n.toNat (by omega))
  go_enter Try.func29, Try.ntmps29
  go_wp2
  go_loopw [0, 3] (fun i v wr => ∃ (m : Int) (bs : List Int), i = .int .i64 m ∧ 0 ≤ m ∧ m ≤ 562949953421311 ∧ varI n.toNat = bs ++ varI m.toNat ∧ wr.ownsRow w.heap.size 5 1 v bs.length (bs.map (Value.int .u8)) ∧ Below w.heap.size w wr)
    (fun i _ _ => (intOf i).toNat)
  case atStart => exact ⟨n, [], rfl, h0, h1, rfl, World.ownsRow_made w #[] 0 (Nat.le_refl _) (by decide) rfl, (Below.refl _ _).alloc (Nat.le_refl _) _⟩
  case round =>
    obtain ⟨m, bs, rfl, hm0, hm, hv, hown, hb⟩ := hrel
    have hsz := hb.size
    have hbl : bs.length ≤ 8 := by
      have h1 := congrArg List.length hv
      have h2 := HL.out
      rw [List.length_append] at h1
      omega
    by_cases hlt : m < 128
    · have HV := hide (show varI n.toNat = bs ++ [m] from by rw [hv, varI_small (by omega), Int.toNat_of_nonneg hm0])
      clear hv
      go_wp2_with (at_builtin; refine wpList_push1 wr (.int .u8 m) rfl (.tmp 22) (.tmp 25) _ rfl w.heap.size 5 _ 1 Try.underlying35 u8_info rfl _ _ _ rfl hown rfl rfl (by omega) (by omega) hsz ?_; intro v' w1 hown' hg _; have hcv := fun d hd => run_conv_own (P := Try.prog) (dst := d) Try.underlying35 Try.underlying5 hd (xs := bs ++ [m]) (by simpa using hown'); have hcv1 := hcv 9 Try.underlying9; clear hcv)
      go_ret
      exact ⟨rSt (by rw [HV.out]), hb.grown hg hsz (fun k hk => (hown.lt k hk).1)⟩
    · have HV := hide (show varI n.toNat = (bs ++ [m % 128 + 128]) ++ varI (m / 128).toNat from by
        rw [hv, varI_big (by omega), show ((m.toNat % 128 + 128 : Nat) : Int) = m % 128 + 128 from by omega, show m.toNat / 128 = (m / 128).toNat from by omega]; simp)
      clear hv
      go_wp2_with (at_builtin; refine wpList_push1 wr (.int .u8 (m % 128 + 128)) rfl (.tmp 13) (.tmp 18) _ rfl w.heap.size 5 _ 1 Try.underlying35 u8_info rfl _ _ _ rfl hown rfl rfl (by omega) (by omega) hsz ?_; intro v' w1 hown' hg _)
      go_roundw
      case rel => exact ⟨m / 128, _, rfl, by omega, by omega, HV.out, by simpa using hown', hb.grown hg hsz (fun k hk => (hown.lt k hk).1)⟩
      case measure => simp [intOf]; omega
theorem spec_ReadFixed_no (s : ByteArray) (n : Int) (w : World) (_hs : s.size ≤ maxLen) (h : n < 1 ∨ 7 < n ∨ (s.size : Int) < n) :
    Calls Try.prog 26 #[.string s, .int .i64 n] w fun e w' => e = .returned (.tuple #[.int .i64 0, .bool false]) ∧ w = w' := by
  unfold maxLen at _hs
  go_enter Try.func26, Try.ntmps26
  go_wp2_with (go_at_call 34; refine (spec_l1In _ _ _ _).mono ?_; rintro e w' ⟨rfl, rfl⟩)
  all_goals go_ret2
  all_goals exact ⟨rfl, rfl⟩
theorem spec_ReadFixed_yes (s : ByteArray) (n : Nat) (w : World) (hs : s.size ≤ maxLen) (h1 : 1 ≤ n) (h2 : n ≤ 7) (h3 : n ≤ s.size) :
    Calls Try.prog 26 #[.string s, .int .i64 (n : Int)] w fun e w' => e = .returned (.tuple #[.int .i64 (rd (s.data.toList.take n)), .bool true]) ∧ w = w' := by
  unfold maxLen at hs
  go_enter Try.func26, Try.ntmps26
  go_wp2_with (go_at_call 34; refine (spec_l1In _ _ _ _).mono ?_; rintro e w' ⟨rfl, rfl⟩)
  go_loop [6, 7] (fun t i => ∃ k : Nat, k ≤ n ∧ i = .int .i64 k ∧ t = .int .i64 (rd (s.data.toList.take k))) (fun _ i => n - (intOf i).toNat)
  case atStart => exact ⟨0, Nat.zero_le _, rfl, rfl⟩
  case round =>
    obtain ⟨k, hk, rfl, rfl⟩ := hrel
    by_cases hlt : k < n
    · have hb := rd_take6 s.data.toList k (by omega)
      have hb0 := rd_nonneg (s.data.toList.take k)
      have hks : k < s.size := by omega
      have HS := hide (show rd (s.data.toList.take (k + 1)) = 256 * rd (s.data.toList.take k) + (s[k].toNat : Int) from by rw [take_snoc s k hks, rd_snoc])
      have hbk := s[k].toNat_lt
      go_wp2
      go_round
      case rel => exact ⟨k + 1, by omega, by go_num, by rw [HS.out, Int.mul_comm]⟩
      case measure => simp [intOf]; omega
    · have hkn : n ≤ k := by omega
      go_wp2
      go_ret2
      exact ⟨rIB (by rw [show k = n from by omega]) rfl, rfl⟩
theorem spec_Var_no (n : Int) (w : World) (h : n < 0 ∨ 562949953421311 < n) :
    Calls Try.prog 28 #[.int .i64 n] w fun e w' => e = .returned (.string ByteArray.empty) ∧ w = w' := by
  go_enter Try.func28, Try.ntmps28
  go_wp2_with (go_at_call 34; refine (spec_l1In_no _ _ _ _ h).mono ?_; rintro e w' ⟨rfl, rfl⟩)
  all_goals go_ret
  all_goals exact ⟨rfl, rfl⟩
theorem spec_Var_yes (n : Int) (w : World) (h0 : 0 ≤ n) (h1 : n ≤ 562949953421311) :
    Calls Try.prog 28 #[.int .i64 n] w fun e w' => e = .returned (.string (strOfNums (varI n.toNat))) ∧ Below w.heap.size w w' := by
  have HL := hide (varI_len 6 n.toNat (by omega))
  go_enter Try.func28, Try.ntmps28
  go_wp2_with (go_at_call 34; refine (spec_l1In _ _ _ _).mono ?_; rintro e w' ⟨rfl, rfl⟩)
  go_loopw [0, 3] (fun i v wr => ∃ (m : Int) (bs : List Int), i = .int .i64 m ∧ 0 ≤ m ∧ m ≤ 562949953421311 ∧ varI n.toNat = bs ++ varI m.toNat ∧ wr.ownsRow w.heap.size 5 1 v bs.length (bs.map (Value.int .u8)) ∧ Below w.heap.size w wr)
    (fun i _ _ => (intOf i).toNat)
  case atStart => exact ⟨n, [], rfl, h0, h1, rfl, World.ownsRow_made w #[] 0 (Nat.le_refl _) (by decide) rfl, (Below.refl _ _).alloc (Nat.le_refl _) _⟩
  case round =>
    obtain ⟨m, bs, rfl, hm0, hm, hv, hown, hb⟩ := hrel
    have hsz := hb.size
    have hbl : bs.length ≤ 8 := by
      have h1 := congrArg List.length hv
      have h2 := HL.out
      rw [List.length_append] at h1
      omega
    by_cases hlt : m < 128
    · have HV := hide (show varI n.toNat = bs ++ [m] from by rw [hv, varI_small (by omega), Int.toNat_of_nonneg hm0])
      clear hv
      go_wp2_with (at_builtin; refine wpList_push1 wr (.int .u8 m) rfl (.tmp 19) (.tmp 22) _ rfl w.heap.size 5 _ 1 Try.underlying35 u8_info rfl _ _ _ rfl hown rfl rfl (by omega) (by omega) hsz ?_; intro v' w1 hown' hg _; have hcv := fun d hd => run_conv_own (P := Try.prog) (dst := d) Try.underlying35 Try.underlying5 hd (xs := bs ++ [m]) (by simpa using hown'); have hcv1 := hcv 9 Try.underlying9; clear hcv)
      go_ret
      exact ⟨rSt (by rw [HV.out]), hb.grown hg hsz (fun k hk => (hown.lt k hk).1)⟩
    · have HV := hide (show varI n.toNat = (bs ++ [128 + m % 128]) ++ varI (m / 128).toNat from by
        rw [hv, varI_big (by omega), show ((m.toNat % 128 + 128 : Nat) : Int) = 128 + m % 128 from by omega, show m.toNat / 128 = (m / 128).toNat from by omega]; simp)
      clear hv
      go_wp2_with (at_builtin; refine wpList_push1 wr (.int .u8 (128 + m % 128)) rfl (.tmp 10) (.tmp 15) _ rfl w.heap.size 5 _ 1 Try.underlying35 u8_info rfl _ _ _ rfl hown rfl rfl (by omega) (by omega) hsz ?_; intro v' w1 hown' hg _)
      go_roundw
      case rel => exact ⟨m / 128, _, rfl, by omega, by omega, HV.out, by simpa using hown', hb.grown hg hsz (fun k hk => (hown.lt k hk).1)⟩
      case measure => simp [intOf]; omega
theorem impl_ReadFixed (s : ByteArray) (n : Int) (w : World) (hs : s.size ≤ maxLen) :
    Calls Try.prog 27 #[.string s, .int .i64 n] w fun e w' => e = .returned (.tuple #[.int .i64 (rdV s n), .bool (rdB s n)]) ∧ w = w' := by
  by_cases h : 1 ≤ n ∧ n ≤ 7 ∧ n ≤ (s.size : Int)
  · obtain ⟨k, rfl⟩ := Int.eq_ofNat_of_zero_le (show 0 ≤ n by omega)
    have hb : rdB s (k : Int) = true := by simp [rdB]; omega
    refine (impl_ReadFixed_yes s k w hs (by omega) (by omega) (by omega)).mono fun e w' ⟨he, hw⟩ => ⟨he.trans (rIB ?_ hb.symm), hw⟩
    rw [rdV, if_pos hb, Int.toNat_natCast]
  · have hb : rdB s n = false := by
      rw [Bool.eq_false_iff]; simp [rdB]; omega
    refine (impl_ReadFixed_no s n w hs (by omega)).mono fun e w' ⟨he, hw⟩ => ⟨he.trans (rIB ?_ hb.symm), hw⟩
    rw [rdV, if_neg (by rw [hb]; simp)]
theorem impl_Var (n : Int) (w : World) :
    Calls Try.prog 29 #[.int .i64 n] w fun e w' => e = .returned (.string (varS n)) ∧ Below w.heap.size w w' := by
  by_cases h : 0 ≤ n ∧ n ≤ 562949953421311
  · refine (impl_Var_yes n w h.1 h.2).mono fun e w' ⟨he, hw⟩ => ⟨he.trans (rSt ?_), hw⟩
    rw [varS, if_pos h]
  · refine (impl_Var_no n w (by omega)).mono fun e w' ⟨he, hw⟩ => ⟨he.trans (rSt ?_), hw ▸ Below.refl _ _⟩
    rw [varS, if_neg h]
theorem spec_ReadFixed (s : ByteArray) (n : Int) (w : World) (hs : s.size ≤ maxLen) :
    Calls Try.prog 26 #[.string s, .int .i64 n] w fun e w' => e = .returned (.tuple #[.int .i64 (rdV s n), .bool (rdB s n)]) ∧ w = w' := by
  by_cases h : 1 ≤ n ∧ n ≤ 7 ∧ n ≤ (s.size : Int)
  · obtain ⟨k, rfl⟩ := Int.eq_ofNat_of_zero_le (show 0 ≤ n by omega)
    have hb : rdB s (k : Int) = true := by simp [rdB]; omega
    refine (spec_ReadFixed_yes s k w hs (by omega) (by omega) (by omega)).mono fun e w' ⟨he, hw⟩ => ⟨he.trans (rIB ?_ hb.symm), hw⟩
    rw [rdV, if_pos hb, Int.toNat_natCast]
  · have hb : rdB s n = false := by
      rw [Bool.eq_false_iff]; simp [rdB]; omega
    refine (spec_ReadFixed_no s n w hs (by omega)).mono fun e w' ⟨he, hw⟩ => ⟨he.trans (rIB ?_ hb.symm), hw⟩
    rw [rdV, if_neg (by rw [hb]; simp)]
theorem spec_Var (n : Int) (w : World) :
    Calls Try.prog 28 #[.int .i64 n] w fun e w' => e = .returned (.string (varS n)) ∧ Below w.heap.size w w' := by
  by_cases h : 0 ≤ n ∧ n ≤ 562949953421311
  · refine (spec_Var_yes n w h.1 h.2).mono fun e w' ⟨he, hw⟩ => ⟨he.trans (rSt ?_), hw⟩
    rw [varS, if_pos h]
  · refine (spec_Var_no n w (by omega)).mono fun e w' ⟨he, hw⟩ => ⟨he.trans (rSt ?_), hw ▸ Below.refl _ _⟩
    rw [varS, if_neg h]
end Go.Proofs.Ytomlkcljdacfkaa
