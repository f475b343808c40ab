/-
  Plain Lean functions for matrices.
-/
import Derived.Test.YtehfglfbnjdcoaaPlainV
namespace Go.Proofs.Ytehfglfbnjdcoaa
open Go.RowKit
set_option maxRecDepth 100000

def okM (r c : Int) (xs : List Int) : Bool := decide (1 ≤ r) && decide (r ≤ 6) && decide (1 ≤ c) && decide (c ≤ 6) && decide ((xs.length : Int) = r * c) && xs.all fxOk
theorem okM_spec {r c : Int} {xs : List Int} (h : okM r c xs = true) : ∃ R C : Nat, r = R ∧ c = C ∧ 1 ≤ R ∧ R ≤ 6 ∧ 1 ≤ C ∧ C ≤ 6 ∧ xs.length = R * C ∧ xs.all fxOk = true := by
  simp only [okM, Bool.and_eq_true, decide_eq_true_eq] at h
  obtain ⟨⟨⟨⟨⟨h1, h2⟩, h3⟩, h4⟩, h5⟩, h6⟩ := h
  obtain ⟨R, rfl⟩ := Int.eq_ofNat_of_zero_le (show 0 ≤ r by omega)
  obtain ⟨C, rfl⟩ := Int.eq_ofNat_of_zero_le (show 0 ≤ c by omega)
  exact ⟨R, C, rfl, rfl, by omega, by omega, by omega, by omega, by rw [← Int.natCast_mul] at h5; omega, h6⟩
theorem okM_le {r c : Int} {xs : List Int} (h : okM r c xs = true) : xs.length ≤ 36 := by
  obtain ⟨R, C, rfl, rfl, h1, h2, h3, h4, h5, _⟩ := okM_spec h
  rw [h5]; exact Nat.mul_le_mul h2 h4
theorem mul36 {r c : Int} (h1 : 1 ≤ r) (h2 : r ≤ 6) (h3 : 1 ≤ c) (h4 : c ≤ 6) : 1 ≤ r * c ∧ r * c ≤ 36 := by
  obtain ⟨R, rfl⟩ := Int.eq_ofNat_of_zero_le (show 0 ≤ r by omega)
  obtain ⟨C, rfl⟩ := Int.eq_ofNat_of_zero_le (show 0 ≤ c by omega)
  have h5 : R * C ≤ 36 := Nat.mul_le_mul (show R ≤ 6 by omega) (show C ≤ 6 by omega)
  have h6 : 0 < R * C := Nat.mul_pos (by omega) (by omega)
  rw [← Int.natCast_mul]; omega
def rowK (C : Nat) (xs : List Int) (k : Nat) : List Int := (xs.drop (k * C)).take C
def mvOk (r c : Int) (xs ys : List Int) : Bool := okM r c xs && okV ys && decide ((ys.length : Int) = c)
def mvRow (C : Nat) (xs ys : List Int) (R : Nat) : List Int := (List.range R).map fun k => vDot (rowK C xs k) ys
def mvRowS (C : Nat) (xs ys : List Int) (R : Nat) : List Bool := (List.range R).map fun k => vDotS (rowK C xs k) ys
def mVec (r c : Int) (xs ys : List Int) : List Int := if mvOk r c xs ys = true then mvRow c.toNat xs ys r.toNat else []
def mVecS (r c : Int) (xs ys : List Int) : Bool := mvOk r c xs ys && (mvRowS c.toNat xs ys r.toNat).any id
theorem range_get {α : Type} (f : Nat → α) (R k : Nat) (h : k < R) (d : α) : ((List.range R).map f).getD k d = f k := by
  simp [List.getD, h]
theorem take_range_succ {α : Type} (f : Nat → α) (R k : Nat) (h : k < R) : ((List.range R).map f).take (k + 1) = ((List.range R).map f).take k ++ [f k] := by
  rw [take_one _ k (by simpa using h) (f k), range_get f R k h]
theorem mVec_len (r c : Int) (xs ys : List Int) : (mVec r c xs ys).length ≤ 6 := by
  rw [mVec]; split
  · rename_i h
    simp only [mvOk, Bool.and_eq_true] at h
    obtain ⟨R, C, rfl, rfl, h1, h2, _⟩ := okM_spec h.1.1
    simp [mvRow]; omega
  · simp
theorem rowK_len {C R k : Nat} {xs : List Int} (hx : xs.length = R * C) (hk : k < R) : (rowK C xs k).length = C := by
  have h1 : (k + 1) * C ≤ R * C := Nat.mul_le_mul_right C hk
  rw [Nat.succ_mul] at h1
  rw [rowK, List.length_take, List.length_drop]; omega
theorem rowK_get {C k : Nat} {xs : List Int} (j : Nat) (hj : j < C) : (rowK C xs k).getD j 0 = xs.getD (k * C + j) 0 := by
  simp [rowK, List.getD, hj, List.getElem?_drop]
end Go.Proofs.Ytehfglfbnjdcoaa
