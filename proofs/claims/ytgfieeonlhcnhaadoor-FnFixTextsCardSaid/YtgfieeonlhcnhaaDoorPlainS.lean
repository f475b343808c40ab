/-
  Plain Lean functions for texts: numbers of fixed width, numbers of varying width, hex.
-/
import Derived.Test.YtgfieeonlhcnhaaDoorPlainA
import Derived.Laws.BytesArg
namespace Go.Proofs.YtgfieeonlhcnhaaDoor
open Go.RowKit
set_option maxRecDepth 100000

theorem take_snoc (s : ByteArray) (k : Nat) (h : k < s.size) : s.data.toList.take (k + 1) = s.data.toList.take k ++ [s[k]] := by
  rw [List.take_succ_eq_append_getElem (by simpa using h)]; rfl
theorem rSt {a b : ByteArray} (h : a = b) : Ending.returned (.string a) = .returned (.string b) := by rw [h]

/-! ### fixed width -/
def rdGo (n : Int) (l : List UInt8) : Int := l.foldl (fun n b => 256 * n + (b.toNat : Int)) n
def rd (l : List UInt8) : Int := rdGo 0 l
theorem rd_snoc (l : List UInt8) (b : UInt8) : rd (l ++ [b]) = 256 * rd l + (b.toNat : Int) := by simp [rd, rdGo]
theorem rdGo_bd (l : List UInt8) : ∀ (n : Int), 0 ≤ n → 0 ≤ rdGo n l ∧ rdGo n l < (n + 1) * 256 ^ l.length := by
  induction l with
  | nil => intro n h; simp [rdGo]; omega
  | cons b l ih =>
    intro n h
    have hb := b.toNat_lt
    have h1 := ih (256 * n + (b.toNat : Int)) (by omega)
    have e : rdGo n (b :: l) = rdGo (256 * n + (b.toNat : Int)) l := rfl
    rw [e]
    refine ⟨h1.1, Int.lt_of_lt_of_le h1.2 ?_⟩
    have h2 : (256 * n + (b.toNat : Int) + 1) ≤ (n + 1) * 256 := by omega
    have h3 := Int.mul_le_mul_of_nonneg_right h2 (c := (256 : Int) ^ l.length) (Int.pow_nonneg (by omega))
    rw [List.length_cons, Int.pow_succ, Int.mul_comm (256 ^ l.length) 256, ← Int.mul_assoc]
    exact h3
theorem rd_nonneg (l : List UInt8) : 0 ≤ rd l := (rdGo_bd l 0 (by omega)).1
theorem rd_lt (l : List UInt8) (k : Nat) (h : l.length ≤ k) : rd l < 256 ^ k := by
  have h1 := (rdGo_bd l 0 (by omega)).2
  have h2 : (256 : Nat) ^ l.length ≤ 256 ^ k := Nat.pow_le_pow_right (by omega) h
  have h3 : (256 : Int) ^ l.length ≤ 256 ^ k := by
    have h4 := Int.ofNat_le.2 h2
    rw [Int.natCast_pow, Int.natCast_pow] at h4
    exact h4
  simp only [Int.zero_add, Int.one_mul] at h1
  unfold rd
  omega
theorem rd_take6 (l : List UInt8) (k : Nat) (h : k ≤ 6) : rd (l.take k) ≤ 281474976710655 := by
  have := rd_lt (l.take k) 6 (by rw [List.length_take]; omega)
  omega

def rdB (s : ByteArray) (n : Int) : Bool := decide (1 ≤ n) && decide (n ≤ 7) && decide (n ≤ (s.size : Int))
def rdV (s : ByteArray) (n : Int) : Int := if rdB s n = true then rd (s.data.toList.take n.toNat) else 0

/-! ### varying width -/
def varI (n : Nat) : List Int := if n < 128 then [(n : Int)] else ((n % 128 + 128 : Nat) : Int) :: varI (n / 128)
termination_by n
decreasing_by omega
theorem varI_small {n : Nat} (h : n < 128) : varI n = [(n : Int)] := by rw [varI, if_pos h]
theorem varI_big {n : Nat} (h : ¬ n < 128) : varI n = ((n % 128 + 128 : Nat) : Int) :: varI (n / 128) := by rw [varI, if_neg h]
theorem varI_len (k : Nat) : ∀ n : Nat, n < 128 ^ (k + 1) → (varI n).length ≤ k + 1 := by
  induction k with
  | zero => intro n h; rw [varI_small (by simpa using h)]; simp
  | succ k ih =>
    intro n h
    by_cases hn : n < 128
    · rw [varI_small hn]; simp
    · rw [varI_big hn, List.length_cons]
      have := ih (n / 128) (by rw [Nat.pow_succ] at h; omega)
      omega
def varS (n : Int) : ByteArray := if 0 ≤ n ∧ n ≤ 562949953421311 then strOfNums (varI n.toNat) else ByteArray.empty

/-! ### a number in so many bytes -/
def fixL : Nat → Nat → List Int
  | 0, _ => []
  | k + 1, n => fixL k (n / 256) ++ [((n % 256 : Nat) : Int)]
theorem fixL_len : ∀ (k n : Nat), (fixL k n).length = k
  | 0, _ => rfl
  | k + 1, n => by rw [fixL, List.length_append, fixL_len k]; rfl
theorem fixL_zero (m : Nat) : fixL 0 m = [] := rfl
theorem fixL_step (k : Nat) (m : Nat) : fixL (k + 1) m = fixL k (m / 256) ++ [((m % 256 : Nat) : Int)] := rfl
theorem div_pow_step (n k : Nat) : n / 256 ^ k / 256 = n / 256 ^ (k + 1) := by rw [Nat.div_div_eq_div_mul, Nat.pow_succ]
theorem strOfNums_append (a b : List Int) : strOfNums a ++ strOfNums b = strOfNums (a ++ b) := by
  have h : ∀ x y : ByteArray, (x ++ y).data = x.data ++ y.data := fun x y => by simp
  apply ByteArray.ext
  rw [h]
  simp [strOfNums]
theorem shr_eq (n : Int) (W : Nat) (h : 0 ≤ n) : n / 2 ^ (8 * W) = ((n.toNat / 256 ^ W : Nat) : Int) := by
  obtain ⟨k, rfl⟩ := Int.eq_ofNat_of_zero_le h
  rw [Int.toNat_natCast, Int.natCast_ediv, Int.natCast_pow, show ((256 : Nat) : Int) = 2 ^ 8 from rfl, ← Int.pow_mul]
theorem setU8 (j : Nat) (bs : List Int) (x : Int) : ((List.replicate (j + 1) 0 ++ bs).map (Value.int .u8)).set j (Value.int .u8 x) = (List.replicate j 0 ++ (x :: bs)).map (Value.int .u8) := by
  rw [← List.map_set]
  congr 1
  rw [List.replicate_succ', List.append_assoc, List.set_append_right _ _ (by simp)]
  simp
def fixS (n W : Int) : ByteArray := if 1 ≤ W ∧ W ≤ 7 ∧ 0 ≤ n ∧ n.toNat / 256 ^ W.toNat = 0 then strOfNums (fixL W.toNat n.toNat) else ByteArray.empty

/-! ### hex -/
def hexD (n : Int) : Int := if n < 10 then 48 + n else 87 + n
def hexOf (n : Int) : List Int := [hexD (n / 16), hexD (n % 16)]
def hexL (l : List UInt8) : List Int := l.flatMap fun b => hexOf (b.toNat : Int)
theorem hexL_snoc (l : List UInt8) (b : UInt8) : hexL (l ++ [b]) = hexL l ++ hexOf (b.toNat : Int) := by simp [hexL]
theorem hexL_len (l : List UInt8) : (hexL l).length = 2 * l.length := by
  induction l with
  | nil => rfl
  | cons b l ih => rw [hexL, List.flatMap_cons, List.length_append, List.length_cons]; simp only [hexL] at ih; rw [ih]; simp [hexOf]; omega
theorem lt16 {P : Int → Prop} (n : Int) (h0 : 0 ≤ n) (h1 : n < 16) (h : P 0 ∧ P 1 ∧ P 2 ∧ P 3 ∧ P 4 ∧ P 5 ∧ P 6 ∧ P 7 ∧ P 8 ∧ P 9 ∧ P 10 ∧ P 11 ∧ P 12 ∧ P 13 ∧ P 14 ∧ P 15) : P n := by
  obtain ⟨g0, g1, g2, g3, g4, g5, g6, g7, g8, g9, g10, g11, g12, g13, g14, g15⟩ := h
  obtain rfl | rfl | rfl | rfl | rfl | rfl | rfl | rfl | rfl | rfl | rfl | rfl | rfl | rfl | rfl | rfl : n = 0 ∨ n = 1 ∨ n = 2 ∨ n = 3 ∨ n = 4 ∨ n = 5 ∨ n = 6 ∨ n = 7 ∨ n = 8 ∨ n = 9 ∨ n = 10 ∨ n = 11 ∨ n = 12 ∨ n = 13 ∨ n = 14 ∨ n = 15 := by omega
  all_goals assumption
end Go.Proofs.YtgfieeonlhcnhaaDoor
