/-
  Numerals: plain Lean.
-/
import Derived.Test.YtgfieeonlhcnhaaDoorPlainS
import Derived.Lib.ItoaNum
import Derived.Lib.ItoaLen
import Derived.Lib.AtoiAll
namespace Go.Proofs.YtgfieeonlhcnhaaDoor
open Go.RowKit
set_option maxRecDepth 100000

/-- the digits of a number that is not nought; nothing for nought -/
def dz (m : Nat) : List UInt8 := if m = 0 then [] else Lib.decDigits m
theorem dz_zero : dz 0 = [] := rfl
theorem dz_step {m : Nat} (h : m ≠ 0) : dz m = dz (m / 10) ++ [UInt8.ofNat (48 + m % 10)] := by
  rw [dz, if_neg h, Lib.decDigits]
  split
  · rename_i h10
    rw [dz, if_pos (by omega), Nat.mod_eq_of_lt h10]; rfl
  · rw [dz, if_neg (by omega)]
theorem dz_all {m : Nat} (h : m ≠ 0) : dz m = Lib.decDigits m := if_neg h
theorem itoa_pos {n : Int} (h : 0 < n) : Lib.itoa n = Lib.decDigits n.natAbs := by
  rw [Lib.itoa, if_neg (by omega), show n.toNat = n.natAbs from by omega]
theorem itoa_neg {n : Int} (h : n < 0) : Lib.itoa n = 45 :: Lib.decDigits n.natAbs := by rw [Lib.itoa, if_pos h]
theorem itoa_zero : Lib.itoa 0 = [48] := by rw [Lib.itoa, if_neg (by omega)]; exact Lib.decDigits_one (by omega)
theorem tdiv_abs (m : Int) : (m.tdiv 10).natAbs = m.natAbs / 10 := by rw [Int.natAbs_tdiv]; rfl
theorem tmod_abs (m : Int) : (m.tmod 10).natAbs = m.natAbs % 10 := by rw [Int.natAbs_tmod]; rfl
theorem bs_cons (x : Nat) (l : List UInt8) : strOfNums [(x : Int)] ++ (⟨l.toArray⟩ : ByteArray) = ⟨(UInt8.ofNat x :: l).toArray⟩ := by
  apply ByteArray.ext
  rw [ByteArray.data_append]
  simp [strOfNums]
theorem minus_cons (l : List UInt8) : (⟨#[45]⟩ : ByteArray) ++ (⟨l.toArray⟩ : ByteArray) = ⟨((45 : UInt8) :: l).toArray⟩ := by
  apply ByteArray.ext
  rw [ByteArray.data_append]
  simp
theorem strOfNums_one (x : Int) : (strOfNums [x]).size = 1 := by simp [strOfNums, ByteArray.size]
theorem nDig_le (m : Nat) (h : m ≤ 9223372036854775808) : Lib.nDigits m ≤ 20 := by
  by_cases hz : m = 0
  · subst hz; rw [Lib.nDigits_small (by omega)]; omega
  · have := Lib.itoa_length_le (n := -(m : Int)) (by omega) (by omega)
    rw [itoa_neg (by omega), List.length_cons, show (-(m : Int)).natAbs = m from by omega, Lib.decDigits_length] at this
    omega
end Go.Proofs.YtgfieeonlhcnhaaDoor
