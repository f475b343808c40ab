/-
  spec.Dec
-/
import Derived.Test.YtgfieeonlhcnhaaDoorPlainD
import Derived.Test.YtgfieeonlhcnhaaDoorMem
import Derived.Test.YtgfieeonlhcnhaaDoorPlainA
import Derived.Test.YtgfieeonlhcnhaaDoorChecked
import Derived.WalkKit
namespace Go.Proofs.YtgfieeonlhcnhaaDoor
open Go.RowKit
set_option maxRecDepth 100000
theorem spec_Dec (n : Int) (h0 : -9223372036854775808 ≤ n) (h1 : n ≤ 9223372036854775807) (w : World) :
    Calls Tryd.prog 15 #[.int .i64 n] w fun e w' => e = .returned (.string ⟨(Lib.itoa n).toArray⟩) ∧ Below w.heap.size w w' := by
  by_cases hz : n = 0
  · subst hz
    go_enter Tryd.func15, Tryd.ntmps15
    go_wp2
    go_ret
    exact ⟨by rw [itoa_zero]; rfl, Below.refl _ _⟩
  have HD := hide (show Lib.decDigits n.natAbs = dz n.natAbs ++ [] from by rw [dz_all (by omega), List.append_nil])
  obtain ⟨neg, hneg⟩ : ∃ b, decide (n < 0) = b := ⟨_, rfl⟩
  have HN := hide hneg
  have hz' : (n == 0) = false := by simp [hz]
  go_enter Tryd.func15, Tryd.ntmps15
  go_wp2_with fail
  go_loopw [0, 3] (fun v s wr => ∃ (m : Int) (l : List UInt8), v = .int .i64 m ∧ s = .string ⟨l.toArray⟩ ∧ -9223372036854775808 ≤ m ∧ m ≤ 9223372036854775807 ∧ Hid (Lib.decDigits n.natAbs = dz m.natAbs ++ l) ∧ Below w.heap.size w wr)
    (fun v _ _ => (intOf v).natAbs)
  case atStart => exact ⟨n, [], rfl, rfl, h0, h1, HD, Below.refl _ _⟩
  case round =>
    rename World => wr
    obtain ⟨m, l, rfl, rfl, hm0, hm1, HL, hb⟩ := hrel
    have hlen : l.length ≤ 20 := by
      have h1 := congrArg List.length HL.out
      rw [Lib.decDigits_length, List.length_append] at h1
      have h2 := nDig_le n.natAbs (by omega)
      omega
    by_cases hm : m = 0
    · subst hm
      cases neg
      · go_wp2_with fail
        go_ret
        refine ⟨?_, hb⟩
        have hl := HL.out
        rw [show (0 : Int).natAbs = 0 from rfl, dz_zero, List.nil_append] at hl
        rw [itoa_pos (by have := of_decide_eq_false HN.out; omega), hl]; rfl
      · go_wp2_with fail
        go_ret
        refine ⟨?_, hb⟩
        have hl := HL.out
        rw [show (0 : Int).natAbs = 0 from rfl, dz_zero, List.nil_append] at hl
        rw [itoa_neg (of_decide_eq_true HN.out), hl]
        exact congrArg (fun x => Ending.returned (.string x)) (minus_cons l)
    · have habs := tmod_abs m
      obtain ⟨d, hd⟩ : ∃ d : Nat, d = m.natAbs % 10 := ⟨_, rfl⟩
      rw [← hd] at habs
      have hd9 : d ≤ 9 := by omega
      have HR := hide (show Lib.decDigits n.natAbs = dz (m.tdiv 10).natAbs ++ (UInt8.ofNat (48 + d) :: l) from by
        rw [HL.out, dz_step (by omega), tdiv_abs, ← hd, List.append_assoc]; rfl)
      have HQ := hide (show -9223372036854775808 ≤ m.tdiv 10 ∧ m.tdiv 10 ≤ 9223372036854775807 ∧ (m.tdiv 10).natAbs < m.natAbs from by
        have := tdiv_abs m
        omega)
      clear hd HL
      have hcv := fun x : Int => run_conv_new (P := Tryd.prog) Tryd.underlying22 Tryd.underlying5 Tryd.underlying9 wr x
      have hs1 := fun x : Int => strOfNums_one x
      by_cases hr : m.tmod 10 < 0
      · obtain ⟨r, hrr⟩ : ∃ r, m.tmod 10 = r := ⟨_, rfl⟩
        go_wp2_with fail
        go_roundw
        case rel => exact ⟨m.tdiv 10, UInt8.ofNat (48 + d) :: l, by go_num, by rw [show (48 + -r : Int) = ((48 + d : Nat) : Int) from by omega, bs_cons], HQ.out.1, HQ.out.2.1, HR, hb.alloc hb.size _⟩
        case measure => exact HQ.out.2.2
      · have hrr : m.tmod 10 = (d : Int) := by omega
        go_wp2_with fail
        go_roundw
        case rel => exact ⟨m.tdiv 10, UInt8.ofNat (48 + d) :: l, by go_num, by rw [show (48 + (d : Int) : Int) = ((48 + d : Nat) : Int) from by omega, bs_cons], HQ.out.1, HQ.out.2.1, HR, hb.alloc hb.size _⟩
        case measure => exact HQ.out.2.2
end Go.Proofs.YtgfieeonlhcnhaaDoor
