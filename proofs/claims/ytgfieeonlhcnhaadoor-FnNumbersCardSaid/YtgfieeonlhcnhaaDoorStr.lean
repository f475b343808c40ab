/-
  The contracts of the functions that read and make texts of numbers.
-/
import Derived.Test.YtgfieeonlhcnhaaDoorProg
import Derived.Test.YtgfieeonlhcnhaaDoorFix
import Derived.Test.YtgfieeonlhcnhaaDoorPlainS
import Derived.Test.YtgfieeonlhcnhaaDoorMem
import Derived.WalkKit
import Derived.Deep.RegionLaw
import Derived.Deep.RegionHeld3
import Derived.BigRegion
import Derived.KernelRfl
namespace Go.Proofs.YtgfieeonlhcnhaaDoor
open Go.RowKit
set_option maxRecDepth 100000

theorem impl_ReadFixed_no (s : ByteArray) (n : Int) (w : World) (_hs : s.size ≤ maxLen) (h : n < 1 ∨ 7 < n ∨ (s.size : Int) < n) :
    Calls Tryd.prog 26 #[.string s, .int .i64 n] w fun e w' => e = .returned (.tuple #[.int .i64 0, .bool false]) ∧ w = w' := by
  unfold maxLen at _hs
  go_enter Tryd.func26, Tryd.ntmps26
  go_wp2
  all_goals go_ret2
  all_goals exact ⟨rfl, rfl⟩
theorem impl_ReadFixed_yes (s : ByteArray) (n : Nat) (w : World) (hs : s.size ≤ maxLen) (h1 : 1 ≤ n) (h2 : n ≤ 7) (h3 : n ≤ s.size) :
    Calls Tryd.prog 26 #[.string s, .int .i64 (n : Int)] w fun e w' => e = .returned (.tuple #[.int .i64 (rd (s.data.toList.take n)), .bool true]) ∧ w = w' := by
  unfold maxLen at hs
  go_enter Tryd.func26, Tryd.ntmps26
  go_wp2
  go_loop [6, 7] (fun t i => ∃ k : Nat, k ≤ n ∧ i = .int .i64 k ∧ t = .int .i64 (rd (s.data.toList.take k))) (fun _ i => n - (intOf i).toNat)
  case atStart => exact ⟨0, Nat.zero_le _, rfl, rfl⟩
  case round =>
    obtain ⟨k, hk, rfl, rfl⟩ := hrel
    by_cases hlt : k < n
    · have hb := rd_take6 s.data.toList k (by omega)
      have hb0 := rd_nonneg (s.data.toList.take k)
      have hks : k < s.size := by omega
      have HS := hide (show rd (s.data.toList.take (k + 1)) = 256 * rd (s.data.toList.take k) + (s[k].toNat : Int) from by rw [take_snoc s k hks, rd_snoc])
      have hbk := s[k].toNat_lt
      go_wp2
      go_round
      case rel => exact ⟨k + 1, by omega, by go_num, by rw [HS.out]⟩
      case measure => simp [intOf]; omega
    · have hkn : n ≤ k := by omega
      go_wp2
      go_ret2
      exact ⟨rIB (by rw [show k = n from by omega]) rfl, rfl⟩

theorem u8_info : (Tryd.prog.info? 5).map (fun i => (i.zero, i.size, i.bytes)) = some (some (.int .u8 0), 1, 1) := by kernel_rfl
theorem impl_Var_no (n : Int) (w : World) (h : n < 0 ∨ 562949953421311 < n) :
    Calls Tryd.prog 23 #[.int .i64 n] w fun e w' => e = .returned (.string ByteArray.empty) ∧ w = w' := by
  go_enter Tryd.func23, Tryd.ntmps23
  go_wp2
  all_goals go_ret
  all_goals exact ⟨rfl, rfl⟩
theorem impl_Var_yes (n : Int) (w : World) (h0 : 0 ≤ n) (h1 : n ≤ 562949953421311) :
    Calls Tryd.prog 23 #[.int .i64 n] w fun e w' => e = .returned (.string (strOfNums (varI n.toNat))) ∧ Below w.heap.size w w' := by
  have HL := hide (varI_len 6 n.toNat (by omega))
  go_enter Tryd.func23, Tryd.ntmps23
  go_wp2
  go_loopw [0, 3] (fun i v wr => ∃ (m : Int) (bs : List Int), i = .int .i64 m ∧ 0 ≤ m ∧ m ≤ 562949953421311 ∧ varI n.toNat = bs ++ varI m.toNat ∧ wr.ownsRow w.heap.size 5 1 v bs.length (bs.map (Value.int .u8)) ∧ Below w.heap.size w wr)
    (fun i _ _ => (intOf i).toNat)
  case atStart => exact ⟨n, [], rfl, h0, h1, rfl, World.ownsRow_made w #[] 0 (Nat.le_refl _) (by decide) rfl, (Below.refl _ _).alloc (Nat.le_refl _) _⟩
  case round =>
    obtain ⟨m, bs, rfl, hm0, hm, hv, hown, hb⟩ := hrel
    have hsz := hb.size
    have hbl : bs.length ≤ 8 := by
      have h1 := congrArg List.length hv
      have h2 := HL.out
      rw [List.length_append] at h1
      omega
    by_cases hlt : m < 128
    · have HV := hide (show varI n.toNat = bs ++ [m] from by rw [hv, varI_small (by omega), Int.toNat_of_nonneg hm0])
      clear hv
      go_wp2_with (at_builtin; refine wpList_push1 wr (.int .u8 m) rfl (.tmp 22) (.tmp 25) _ rfl w.heap.size 5 _ 1 Tryd.underlying22 u8_info rfl _ _ _ rfl hown rfl rfl (by omega) (by omega) hsz ?_; intro v' w1 hown' hg _; have hcv := fun d hd => run_conv_own (P := Tryd.prog) (dst := d) Tryd.underlying22 Tryd.underlying5 hd (xs := bs ++ [m]) (by simpa using hown'); have hcv1 := hcv 9 Tryd.underlying9; clear hcv)
      go_ret
      exact ⟨rSt (by rw [HV.out]), hb.grown hg hsz (fun k hk => (hown.lt k hk).1)⟩
    · have HV := hide (show varI n.toNat = (bs ++ [m % 128 + 128]) ++ varI (m / 128).toNat from by
        rw [hv, varI_big (by omega), show ((m.toNat % 128 + 128 : Nat) : Int) = m % 128 + 128 from by omega, show m.toNat / 128 = (m / 128).toNat from by omega]; simp)
      clear hv
      go_wp2_with (at_builtin; refine wpList_push1 wr (.int .u8 (m % 128 + 128)) rfl (.tmp 13) (.tmp 18) _ rfl w.heap.size 5 _ 1 Tryd.underlying22 u8_info rfl _ _ _ rfl hown rfl rfl (by omega) (by omega) hsz ?_; intro v' w1 hown' hg _)
      go_roundw
      case rel => exact ⟨m / 128, _, rfl, by omega, by omega, HV.out, by simpa using hown', hb.grown hg hsz (fun k hk => (hown.lt k hk).1)⟩
      case measure => simp [intOf]; omega
theorem spec_Var_no (n : Int) (w : World) (h : n < 0 ∨ 562949953421311 < n) :
    Calls Tryd.prog 45 #[.int .i64 n] w fun e w' => e = .returned (.string ByteArray.empty) ∧ w = w' := by
  go_enter Tryd.func45, Tryd.ntmps45
  go_wp2_with (go_at_call 39; refine (spec_l1In_no _ _ _ _ h).mono ?_; rintro e w' ⟨rfl, rfl⟩)
  all_goals go_ret
  all_goals exact ⟨rfl, rfl⟩
theorem spec_Var_yes (n : Int) (w : World) (h0 : 0 ≤ n) (h1 : n ≤ 562949953421311) :
    Calls Tryd.prog 45 #[.int .i64 n] w fun e w' => e = .returned (.string (strOfNums (varI n.toNat))) ∧ Below w.heap.size w w' := by
  have HL := hide (varI_len 6 n.toNat (by omega))
  go_enter Tryd.func45, Tryd.ntmps45
  go_wp2_with (go_at_call 39; refine (spec_l1In _ _ _ _).mono ?_; rintro e w' ⟨rfl, rfl⟩)
  go_loopw [0, 3] (fun i v wr => ∃ (m : Int) (bs : List Int), i = .int .i64 m ∧ 0 ≤ m ∧ m ≤ 562949953421311 ∧ varI n.toNat = bs ++ varI m.toNat ∧ wr.ownsRow w.heap.size 5 1 v bs.length (bs.map (Value.int .u8)) ∧ Below w.heap.size w wr)
    (fun i _ _ => (intOf i).toNat)
  case atStart => exact ⟨n, [], rfl, h0, h1, rfl, World.ownsRow_made w #[] 0 (Nat.le_refl _) (by decide) rfl, (Below.refl _ _).alloc (Nat.le_refl _) _⟩
  case round =>
    obtain ⟨m, bs, rfl, hm0, hm, hv, hown, hb⟩ := hrel
    have hsz := hb.size
    have hbl : bs.length ≤ 8 := by
      have h1 := congrArg List.length hv
      have h2 := HL.out
      rw [List.length_append] at h1
      omega
    by_cases hlt : m < 128
    · have HV := hide (show varI n.toNat = bs ++ [m] from by rw [hv, varI_small (by omega), Int.toNat_of_nonneg hm0])
      clear hv
      go_wp2_with (at_builtin; refine wpList_push1 wr (.int .u8 m) rfl (.tmp 19) (.tmp 22) _ rfl w.heap.size 5 _ 1 Tryd.underlying22 u8_info rfl _ _ _ rfl hown rfl rfl (by omega) (by omega) hsz ?_; intro v' w1 hown' hg _; have hcv := fun d hd => run_conv_own (P := Tryd.prog) (dst := d) Tryd.underlying22 Tryd.underlying5 hd (xs := bs ++ [m]) (by simpa using hown'); have hcv1 := hcv 9 Tryd.underlying9; clear hcv)
      go_ret
      exact ⟨rSt (by rw [HV.out]), hb.grown hg hsz (fun k hk => (hown.lt k hk).1)⟩
    · have HV := hide (show varI n.toNat = (bs ++ [128 + m % 128]) ++ varI (m / 128).toNat from by
        rw [hv, varI_big (by omega), show ((m.toNat % 128 + 128 : Nat) : Int) = 128 + m % 128 from by omega, show m.toNat / 128 = (m / 128).toNat from by omega]; simp)
      clear hv
      go_wp2_with (at_builtin; refine wpList_push1 wr (.int .u8 (128 + m % 128)) rfl (.tmp 10) (.tmp 15) _ rfl w.heap.size 5 _ 1 Tryd.underlying22 u8_info rfl _ _ _ rfl hown rfl rfl (by omega) (by omega) hsz ?_; intro v' w1 hown' hg _)
      go_roundw
      case rel => exact ⟨m / 128, _, rfl, by omega, by omega, HV.out, by simpa using hown', hb.grown hg hsz (fun k hk => (hown.lt k hk).1)⟩
      case measure => simp [intOf]; omega
theorem impl_ReadFixed (s : ByteArray) (n : Int) (w : World) (hs : s.size ≤ maxLen) :
    Calls Tryd.prog 26 #[.string s, .int .i64 n] w fun e w' => e = .returned (.tuple #[.int .i64 (rdV s n), .bool (rdB s n)]) ∧ w = w' := by
  by_cases h : 1 ≤ n ∧ n ≤ 7 ∧ n ≤ (s.size : Int)
  · obtain ⟨k, rfl⟩ := Int.eq_ofNat_of_zero_le (show 0 ≤ n by omega)
    have hb : rdB s (k : Int) = true := by simp [rdB]; omega
    refine (impl_ReadFixed_yes s k w hs (by omega) (by omega) (by omega)).mono fun e w' ⟨he, hw⟩ => ⟨he.trans (rIB ?_ hb.symm), hw⟩
    rw [rdV, if_pos hb, Int.toNat_natCast]
  · have hb : rdB s n = false := by
      rw [Bool.eq_false_iff]; simp [rdB]; omega
    refine (impl_ReadFixed_no s n w hs (by omega)).mono fun e w' ⟨he, hw⟩ => ⟨he.trans (rIB ?_ hb.symm), hw⟩
    rw [rdV, if_neg (by rw [hb]; simp)]
theorem impl_Var (n : Int) (w : World) :
    Calls Tryd.prog 23 #[.int .i64 n] w fun e w' => e = .returned (.string (varS n)) ∧ Below w.heap.size w w' := by
  by_cases h : 0 ≤ n ∧ n ≤ 562949953421311
  · refine (impl_Var_yes n w h.1 h.2).mono fun e w' ⟨he, hw⟩ => ⟨he.trans (rSt ?_), hw⟩
    rw [varS, if_pos h]
  · refine (impl_Var_no n w (by omega)).mono fun e w' ⟨he, hw⟩ => ⟨he.trans (rSt ?_), hw ▸ Below.refl _ _⟩
    rw [varS, if_neg h]
theorem spec_Var (n : Int) (w : World) :
    Calls Tryd.prog 45 #[.int .i64 n] w fun e w' => e = .returned (.string (varS n)) ∧ Below w.heap.size w w' := by
  by_cases h : 0 ≤ n ∧ n ≤ 562949953421311
  · refine (spec_Var_yes n w h.1 h.2).mono fun e w' ⟨he, hw⟩ => ⟨he.trans (rSt ?_), hw⟩
    rw [varS, if_pos h]
  · refine (spec_Var_no n w (by omega)).mono fun e w' ⟨he, hw⟩ => ⟨he.trans (rSt ?_), hw ▸ Below.refl _ _⟩
    rw [varS, if_neg h]
theorem impl_Fixed_no (n W : Int) (w : World) (h : W < 1 ∨ 7 < W ∨ n < 0) :
    Calls Tryd.prog 25 #[.int .i64 n, .int .i64 W] w fun e w' => e = .returned (.string ByteArray.empty) ∧ w = w' := by
  rcases h with h | h | h
  · go_enter Tryd.func25, Tryd.ntmps25
    go_wp2
    go_ret
    exact ⟨rfl, rfl⟩
  · have h' : ¬ W < 1 := by omega
    go_enter Tryd.func25, Tryd.ntmps25
    go_wp2
    go_ret
    exact ⟨rfl, rfl⟩
  · by_cases h1 : W < 1
    · go_enter Tryd.func25, Tryd.ntmps25
      go_wp2
      go_ret
      exact ⟨rfl, rfl⟩
    · by_cases h2 : 7 < W
      · go_enter Tryd.func25, Tryd.ntmps25
        go_wp2
        go_ret
        exact ⟨rfl, rfl⟩
      · go_enter Tryd.func25, Tryd.ntmps25
        go_wp2
        go_ret
        exact ⟨rfl, rfl⟩
theorem impl_Fixed_yes (n : Int) (W : Nat) (w : World) (h1 : 1 ≤ W) (h2 : W ≤ 7) (h0 : 0 ≤ n) (hn : n ≤ 9223372036854775807) :
    Calls Tryd.prog 25 #[.int .i64 n, .int .i64 (W : Int)] w fun e w' => e = .returned (.string (fixS n (W : Int))) ∧ Below w.heap.size w w' := by
  have hmk := fun W' : World => run_make_row' (P := Tryd.prog) 22 5 _ _ Tryd.underlying22 u8_info rfl .i64 .i64 W (by omega) (by omega) W'
  go_enter Tryd.func25, Tryd.ntmps25
  go_wp2
  · have hc := ‹(((W : Int) < 1 ∨ 7 < (W : Int)) ∨ n < 0) ∨ (n / 2 ^ (8 * W) != 0) = true›
    go_ret
    have hno : ¬ (1 ≤ (W : Int) ∧ (W : Int) ≤ 7 ∧ 0 ≤ n ∧ n.toNat / 256 ^ (W : Int).toNat = 0) := by
      rintro ⟨_, _, _, h4⟩
      rw [Int.toNat_natCast] at h4
      rw [shr_eq n W h0, h4] at hc
      simp at hc
      omega
    exact ⟨rSt (by rw [fixS, if_neg hno]; rfl), Below.refl _ _⟩
  · have hc := ‹((1 ≤ (W : Int) ∧ (W : Int) ≤ 7) ∧ 0 ≤ n) ∧ (n / 2 ^ (8 * W) != 0) = false›
    have HM := hide (show n.toNat / 256 ^ W = 0 from by
      have h4 := hc.2
      rw [shr_eq n W h0, bne_eq_false_iff_eq] at h4
      exact Int.ofNat_eq_zero.1 h4)
    clear hc
    rename_i h5 _ _
    clear h5
    go_loopw [0, 6] (fun a i wr => ∃ (j : Nat) (m : Int) (bs : List Int), i = .int .i64 ((j : Int) - 1) ∧ j ≤ W ∧ a = .int .i64 m ∧ 0 ≤ m ∧ m ≤ 9223372036854775807 ∧ bs.length + j = W ∧
        Hid (fixL W n.toNat = fixL j m.toNat ++ bs) ∧ wr.ownsRow w.heap.size 5 1 (.slice (some ⟨w.heap.size, 0, none⟩) W W) W ((List.replicate j 0 ++ bs).map (Value.int .u8)) ∧ Below w.heap.size w wr)
      (fun _ i _ => (intOf i + 1).toNat)
    case atStart => exact ⟨W, n, [], rfl, Nat.le_refl _, rfl, h0, hn, by simp, by simp [Hid], by
      have := World.ownsRow_lit (base := w.heap.size) (e := 5) (size := 1) w (madeCells #[.int .u8 0] W) W (Nat.le_refl _) (by simp only [maxLen]; omega) (by simp [madeCells])
      rw [toList_madeCells_one] at this
      simpa using this, (Below.refl _ _).alloc (Nat.le_refl _) _⟩
    case round =>
      obtain ⟨j, m, bs, rfl, hj, rfl, hm0, hm, hbl, hv, hown, hb⟩ := hrel
      have hsz := hb.size
      rcases j with _ | j
      · have hcv := run_conv_own (P := Tryd.prog) Tryd.underlying22 Tryd.underlying5 Tryd.underlying9 (xs := bs) (by simpa using hown)
        have HV := hide (show fixL W n.toNat = bs from by rw [hv.out]; rfl)
        clear hv
        go_wp2
        go_ret
        exact ⟨rSt (by rw [fixS, if_pos ⟨by omega, by omega, h0, by rw [Int.toNat_natCast]; exact HM.out⟩, Int.toNat_natCast, HV.out]), hb⟩
      · rw [show ((j + 1 : Nat) : Int) - 1 = (j : Int) from by omega]
        have hcell : wr.cell? ⟨w.heap.size, j, none⟩ = some (.int .u8 0) := by
          rw [hown.cellAt j (by omega), List.getElem?_map, List.getElem?_append_left (by simp), List.getElem?_replicate_of_lt (by omega)]
          rfl
        have hfr := hown.frozenAt j
        have hst := (hown.stored j (.int .u8 (m % 256))).1
        rw [setU8] at hst
        have HO := hide hst
        have HV := hide (show fixL W n.toNat = fixL j (m / 256).toNat ++ (m % 256 :: bs) from by
          rw [hv.out, fixL_step, show ((m.toNat % 256 : Nat) : Int) = m % 256 from by omega, show m.toNat / 256 = (m / 256).toNat from by omega]; simp)
        clear hv hst hown
        go_wp2
        go_roundw
        case rel => exact ⟨j, m / 256, m % 256 :: bs, rfl, by omega, rfl, by omega, by omega, by simp; omega, HV, HO.out, hb.setCell (by simp) _⟩
        case measure => simp [intOf]
theorem impl_Fixed (n W : Int) (w : World) (hn : n ≤ 9223372036854775807) :
    Calls Tryd.prog 25 #[.int .i64 n, .int .i64 W] w fun e w' => e = .returned (.string (fixS n W)) ∧ Below w.heap.size w w' := by
  by_cases h : 1 ≤ W ∧ W ≤ 7 ∧ 0 ≤ n
  · obtain ⟨k, rfl⟩ := Int.eq_ofNat_of_zero_le (show 0 ≤ W by omega)
    exact impl_Fixed_yes n k w (by omega) (by omega) h.2.2 hn
  · refine (impl_Fixed_no n W w (by omega)).mono fun e w' ⟨he, hw⟩ => ⟨he.trans (rSt ?_), hw ▸ Below.refl _ _⟩
    rw [fixS, if_neg (fun hc => h ⟨hc.1, hc.2.1, hc.2.2.1⟩)]
theorem hex_idx (n : Int) (h0 : 0 ≤ n) (h1 : n < 16) (w : World) : (Instr.index 9 (.string ⟨#[48, 49, 50, 51, 52, 53, 54, 55, 56, 57, 97, 98, 99, 100, 101, 102]⟩) (.int .u8 n)).run Tryd.prog w = .ok (.int .u8 (hexD n)) w :=
  lt16 (P := fun n => (Instr.index 9 (.string ⟨#[48, 49, 50, 51, 52, 53, 54, 55, 56, 57, 97, 98, 99, 100, 101, 102]⟩) (.int .u8 n)).run Tryd.prog w = .ok (.int .u8 (hexD n)) w) n h0 h1
    ⟨by kernel_rfl, by kernel_rfl, by kernel_rfl, by kernel_rfl, by kernel_rfl, by kernel_rfl, by kernel_rfl, by kernel_rfl, by kernel_rfl, by kernel_rfl, by kernel_rfl, by kernel_rfl, by kernel_rfl, by kernel_rfl, by kernel_rfl, by kernel_rfl⟩
theorem impl_Hex (s : ByteArray) (w : World) (hs : s.size ≤ 1048576) :
    Calls Tryd.prog 28 #[.string s] w fun e w' => e = .returned (.string (strOfNums (hexL s.data.toList))) ∧ Below w.heap.size w w' := by
  go_enter Tryd.func28, Tryd.ntmps28
  go_wp2
  go_loopw [3, 4] (fun v i wr => ∃ k : Nat, k ≤ s.size ∧ i = .int .i64 (k : Int) ∧ wr.ownsRow w.heap.size 5 1 v (2 * k) ((hexL (s.data.toList.take k)).map (Value.int .u8)) ∧ Below w.heap.size w wr)
    (fun _ i _ => s.size - (intOf i).toNat)
  case atStart => exact ⟨0, Nat.zero_le _, rfl, World.ownsRow_made w #[] 0 (Nat.le_refl _) (by decide) rfl, (Below.refl _ _).alloc (Nat.le_refl _) _⟩
  case round =>
    obtain ⟨k, hk, rfl, hown, hb⟩ := hrel
    have hsz := hb.size
    by_cases hlt : k < s.size
    · have hbk := s[k].toNat_lt
      have HX := hide (show ∀ (v' : Value) (w1 : World), w1.ownsRow w.heap.size 5 1 v' (2 * k + 2) ((hexL (s.data.toList.take k)).map (Value.int .u8) ++ [.int .u8 (hexD ((s[k].toNat : Int) / 16)), .int .u8 (hexD ((s[k].toNat : Int) % 16))]) →
          w1.ownsRow w.heap.size 5 1 v' (2 * (k + 1)) ((hexL (s.data.toList.take (k + 1))).map (Value.int .u8)) from fun v' w1 h => by
        rw [take_snoc s k hlt, hexL_snoc]
        simpa [hexOf, Nat.mul_add] using h)
      have hi1 := fun W : World => hex_idx ((s[k].toNat : Int) / 16) (by omega) (by omega) W
      have hi2 := fun W : World => hex_idx ((s[k].toNat : Int) % 16) (by omega) (by omega) W
      have hw1 := IntWalk.u8_in ((s[k].toNat : Int) / 16) (by omega)
      have hw2 : ((s[k].toNat : Int)).tmod 16 = (s[k].toNat : Int) % 16 := IntWalk.rem_in _ _ (by omega)
      go_wp2
      go_region_law (refine step_pushN wr.drew [.int .u8 (hexD ((s[k].toNat : Int) / 16)), .int .u8 (hexD ((s[k].toNat : Int) % 16))] rfl (.tmp 12) (.tmp 23) _ rfl w.heap.size 5 _ 1 Tryd.underlying22 u8_info rfl u3 _ 2 _ rfl hown rfl (by simp [Value.oneCell']) rfl (by omega) (by omega) hsz ?_; intro v' w1 hown' hg _)
      all_goals go_wp2
      all_goals go_roundw
      all_goals first
        | (simp [intOf]; omega; done)
        | exact ⟨k + 1, by omega, by go_num, HX.out _ _ hown', hb.drew.grown hg hsz (fun k hk => (hown.lt k hk).1)⟩
    · obtain rfl : k = s.size := by omega
      have hcv := run_conv_own (P := Tryd.prog) Tryd.underlying22 Tryd.underlying5 Tryd.underlying9 hown
      go_wp2
      go_ret
      exact ⟨rSt (by rw [List.take_of_length_le (by simp)]), hb⟩
end Go.Proofs.YtgfieeonlhcnhaaDoor
