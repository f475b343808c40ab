/-
  The contracts of the functions that read and make texts of numbers.
-/
import Derived.Test.YtjdaeebpifihiaaProg
import Derived.Test.YtjdaeebpifihiaaFix
import Derived.Test.YtjdaeebpifihiaaPlainS
import Derived.Test.YtjdaeebpifihiaaMem
import Derived.WalkKit
import Derived.Deep.RegionLaw
import Derived.Deep.RegionHeld3
import Derived.BigRegion
import Derived.KernelRfl
namespace Go.Proofs.Ytjdaeebpifihiaa
open Go.RowKit


theorem u8_info : (Try.prog.info? 5).map (fun i => (i.zero, i.size, i.bytes)) = some (some (.int .u8 0), 1, 1) := by kernel_rfl
theorem spec_Var_no (n : Int) (w : World) (h : n < 0 ∨ 562949953421311 < n) :
    Calls Try.prog 76 #[.int .i64 n] w fun e w' => e = .returned (.string ByteArray.empty) ∧ w = w' := by
  go_enter Try.func76, Try.ntmps76
  go_wp2_with (go_at_call 53; refine (spec_l1In_no _ _ _ _ h).mono ?_; rintro e w' ⟨rfl, rfl⟩)
  all_goals go_ret
  all_goals exact ⟨rfl, rfl⟩
theorem spec_Var_yes (n : Int) (w : World) (h0 : 0 ≤ n) (h1 : n ≤ 562949953421311) :
    Calls Try.prog 76 #[.int .i64 n] w fun e w' => e = .returned (.string (strOfNums (varI n.toNat))) ∧ Below w.heap.size w w' := by
  have HL := hide (varI_len 6 n.toNat (by omega))
  go_enter Try.func76, Try.ntmps76
  go_wp2_with (go_at_call 53; refine (spec_l1In _ _ _ _).mono ?_; rintro e w' ⟨rfl, rfl⟩)
  go_loopw [0, 3] (fun i v wr => ∃ (m : Int) (bs : List Int), i = .int .i64 m ∧ 0 ≤ m ∧ m ≤ 562949953421311 ∧ varI n.toNat = bs ++ varI m.toNat ∧ wr.ownsRow w.heap.size 5 1 v bs.length (bs.map (Value.int .u8)) ∧ Below w.heap.size w wr)
    (fun i _ _ => (intOf i).toNat)
  case atStart => exact ⟨n, [], rfl, h0, h1, rfl, World.ownsRow_made w #[] 0 (Nat.le_refl _) (by decide) rfl, (Below.refl _ _).alloc (Nat.le_refl _) _⟩
  case round =>
    obtain ⟨m, bs, rfl, hm0, hm, hv, hown, hb⟩ := hrel
    have hsz := hb.size
    have hbl : bs.length ≤ 8 := by
      have h1 := congrArg List.length hv
      have h2 := HL.out
      rw [List.length_append] at h1
      omega
    by_cases hlt : m < 128
    · have HV := hide (show varI n.toNat = bs ++ [m] from by rw [hv, varI_small (by omega), Int.toNat_of_nonneg hm0])
      clear hv
      go_wp2_with (at_builtin; refine wpList_push1 wr (.int .u8 m) rfl (.tmp 19) (.tmp 22) _ rfl w.heap.size 5 _ 1 Try.underlying22 u8_info rfl _ _ _ rfl hown rfl rfl (by omega) (by omega) hsz ?_; intro v' w1 hown' hg _; have hcv := fun d hd => run_conv_own (P := Try.prog) (dst := d) Try.underlying22 Try.underlying5 hd (xs := bs ++ [m]) (by simpa using hown'); have hcv1 := hcv 9 Try.underlying9; clear hcv)
      go_ret
      exact ⟨rSt (by rw [HV.out]), hb.grown hg hsz (fun k hk => (hown.lt k hk).1)⟩
    · have HV := hide (show varI n.toNat = (bs ++ [128 + m % 128]) ++ varI (m / 128).toNat from by
        rw [hv, varI_big (by omega), show ((m.toNat % 128 + 128 : Nat) : Int) = 128 + m % 128 from by omega, show m.toNat / 128 = (m / 128).toNat from by omega]; simp)
      clear hv
      go_wp2_with (at_builtin; refine wpList_push1 wr (.int .u8 (128 + m % 128)) rfl (.tmp 10) (.tmp 15) _ rfl w.heap.size 5 _ 1 Try.underlying22 u8_info rfl _ _ _ rfl hown rfl rfl (by omega) (by omega) hsz ?_; intro v' w1 hown' hg _)
      go_roundw
      case rel => exact ⟨m / 128, _, rfl, by omega, by omega, HV.out, by simpa using hown', hb.grown hg hsz (fun k hk => (hown.lt k hk).1)⟩
      case measure => simp [intOf]; omega
theorem spec_Var (n : Int) (w : World) :
    Calls Try.prog 76 #[.int .i64 n] w fun e w' => e = .returned (.string (varS n)) ∧ Below w.heap.size w w' := by
  by_cases h : 0 ≤ n ∧ n ≤ 562949953421311
  · refine (spec_Var_yes n w h.1 h.2).mono fun e w' ⟨he, hw⟩ => ⟨he.trans (rSt ?_), hw⟩
    rw [varS, if_pos h]
  · refine (spec_Var_no n w (by omega)).mono fun e w' ⟨he, hw⟩ => ⟨he.trans (rSt ?_), hw ▸ Below.refl _ _⟩
    rw [varS, if_neg h]
theorem hex_idx64 (n : Int) (h0 : 0 ≤ n) (h1 : n < 16) (w : World) : (Instr.index 9 (.string ⟨#[48, 49, 50, 51, 52, 53, 54, 55, 56, 57, 97, 98, 99, 100, 101, 102]⟩) (.int .i64 n)).run Try.prog w = .ok (.int .u8 (hexD n)) w :=
  lt16 (P := fun n => (Instr.index 9 (.string ⟨#[48, 49, 50, 51, 52, 53, 54, 55, 56, 57, 97, 98, 99, 100, 101, 102]⟩) (.int .i64 n)).run Try.prog w = .ok (.int .u8 (hexD n)) w) n h0 h1
    ⟨by kernel_rfl, by kernel_rfl, by kernel_rfl, by kernel_rfl, by kernel_rfl, by kernel_rfl, by kernel_rfl, by kernel_rfl, by kernel_rfl, by kernel_rfl, by kernel_rfl, by kernel_rfl, by kernel_rfl, by kernel_rfl, by kernel_rfl, by kernel_rfl⟩
theorem spec_l1Digit (n : Int) (h0 : 0 ≤ n) (h1 : n < 16) (w : World) : Calls Try.prog 86 #[.int .i64 n] w fun e w' => e = .returned (.int .u8 (hexD n)) ∧ w = w' := by
  have hi := hex_idx64 n h0 h1 w
  go_enter Try.func86, Try.ntmps86
  go_wp2
  go_ret
  exact ⟨rfl, rfl⟩
end Go.Proofs.Ytjdaeebpifihiaa
