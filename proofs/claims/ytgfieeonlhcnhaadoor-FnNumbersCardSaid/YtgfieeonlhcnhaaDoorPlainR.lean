/-
  Plain Lean functions for reading a number of varying width.
-/
import Derived.Test.YtgfieeonlhcnhaaDoorPlainS
namespace Go.Proofs.YtgfieeonlhcnhaaDoor
open Go.RowKit
set_option maxRecDepth 100000

def vv : List UInt8 → Nat
  | [] => 0
  | b :: r => b.toNat % 128 + 128 * vv r
def toI (l : List UInt8) : List Int := l.map fun b => (b.toNat : Int)
def canon : List UInt8 → Bool
  | [] => false
  | [b] => decide (b.toNat < 128)
  | b :: c :: r => decide (128 ≤ b.toNat) && canon (c :: r) && !(r.isEmpty && decide (c.toNat = 0))
theorem vv_pos : ∀ (l : List UInt8), canon l = true → (∀ b, l = [b] → b.toNat ≠ 0) → 0 < vv l
  | [b], h, h0 => by
    have h1 := h0 b rfl
    have h2 : b.toNat < 128 := by simpa [canon] using h
    simp only [vv]; omega
  | b :: c :: r, h, _ => by
    simp only [canon, Bool.and_eq_true, Bool.not_eq_true', Bool.and_eq_false_iff] at h
    have := vv_pos (c :: r) h.1.2 (fun x hx => by
      simp only [List.cons.injEq] at hx
      obtain ⟨rfl, rfl⟩ := hx
      rcases h.2 with h3 | h3
      · simp at h3
      · simpa using h3)
    rw [vv]; omega
theorem var_canon : ∀ (l : List UInt8), canon l = true → varI (vv l) = toI l
  | [b], h => by
    have h2 : b.toNat < 128 := by simpa [canon] using h
    rw [varI_small (by simp only [vv]; omega)]
    simp only [vv, toI, List.map_cons, List.map_nil]
    congr 1
    omega
  | b :: c :: r, h => by
    have h' := h
    simp only [canon, Bool.and_eq_true, Bool.not_eq_true', Bool.and_eq_false_iff, decide_eq_true_eq] at h'
    have hp := vv_pos (c :: r) h'.1.2 (fun x hx => by
      simp only [List.cons.injEq] at hx
      obtain ⟨rfl, rfl⟩ := hx
      rcases h'.2 with h3 | h3
      · simp at h3
      · simpa using h3)
    have ih := var_canon (c :: r) h'.1.2
    have hb := b.toNat_lt
    have e : vv (b :: c :: r) = b.toNat % 128 + 128 * vv (c :: r) := rfl
    rw [varI_big (by rw [e]; omega), e, show (b.toNat % 128 + 128 * vv (c :: r)) / 128 = vv (c :: r) by omega, ih, toI, List.map_cons]
    congr 1
    show (((b.toNat % 128 + 128 * vv (c :: r)) % 128 + 128 : Nat) : Int) = (b.toNat : Int)
    omega
theorem canon_var : ∀ (l : List UInt8), l ≠ [] → varI (vv l) = toI l → canon l = true
  | [b], _, h => by
    rw [varI_small (by simp only [vv]; omega)] at h
    simp only [vv, toI, List.map_cons, List.map_nil, List.cons.injEq, and_true] at h
    simp only [canon, decide_eq_true_eq]
    omega
  | b :: c :: r, _, h => by
    have e : vv (b :: c :: r) = b.toNat % 128 + 128 * vv (c :: r) := rfl
    by_cases hn : vv (b :: c :: r) < 128
    · rw [varI_small hn] at h
      simp [toI] at h
    · rw [varI_big hn, e, show (b.toNat % 128 + 128 * vv (c :: r)) / 128 = vv (c :: r) by omega, toI, List.map_cons, List.cons.injEq] at h
      have ih := canon_var (c :: r) (by simp) h.2
      have hb := b.toNat_lt
      simp only [canon, Bool.and_eq_true, decide_eq_true_eq, Bool.not_eq_true', Bool.and_eq_false_iff]
      refine ⟨⟨by omega, ih⟩, ?_⟩
      by_cases hr : r = []
      · right
        subst hr
        rw [decide_eq_false_iff_not]
        intro hc
        simp only [vv] at e hn
        omega
      · left; simpa using hr
theorem canon_iff : ∀ (l : List UInt8), canon l = true ↔ l ≠ [] ∧ (∀ (j : Nat) b, l[j]? = some b → j + 1 < l.length → 128 ≤ b.toNat) ∧ (∀ b, l[l.length - 1]? = some b → b.toNat < 128 ∧ (1 < l.length → b.toNat ≠ 0))
  | [] => by simp [canon]
  | [b] => by simp [canon]
  | b :: c :: r => by
    have ih := canon_iff (c :: r)
    simp only [canon, Bool.and_eq_true, decide_eq_true_eq, ih]
    constructor
    · rintro ⟨⟨h1, _, h2, h3⟩, h4⟩
      refine ⟨by simp, fun j x hj hl => ?_, fun x hx => ?_⟩
      · cases j with
        | zero => simp at hj; subst hj; exact h1
        | succ j => exact h2 j x (by simpa using hj) (by simp only [List.length_cons] at hl ⊢; omega)
      · have hx' : (c :: r)[(c :: r).length - 1]? = some x := by simpa using hx
        have := h3 x hx'
        refine ⟨this.1, fun _ => ?_⟩
        by_cases hr : r = []
        · subst hr
          simp at hx'
          subst hx'
          simpa using h4
        · exact this.2 (by
            rw [List.length_cons]
            have := List.length_pos_iff.2 hr
            omega)
    · rintro ⟨_, h2, h3⟩
      have hl : (b :: c :: r)[(b :: c :: r).length - 1]? = (c :: r)[(c :: r).length - 1]? := by simp
      refine ⟨⟨h2 0 b (by simp) (by simp), by simp, fun j x hj hjl => h2 (j + 1) x (by simpa using hj) (by simp only [List.length_cons] at hjl ⊢; omega), fun x hx => ?_⟩, ?_⟩
      · have := h3 x (by rw [hl]; exact hx)
        exact ⟨this.1, fun _ => this.2 (by simp)⟩
      · simp only [Bool.not_eq_true', Bool.and_eq_false_iff]
        by_cases hr : r = []
        · right
          subst hr
          have := (h3 c (by simp)).2 (by simp)
          simpa using this
        · left; simpa using hr
/-- where the number ends: 0 if there is none -/
def rvP (L : List UInt8) (k : Nat) : Bool := decide (k ≤ L.length) && canon (L.take k)
def rvN (L : List UInt8) : Nat := ((List.range 8).find? (rvP L)).getD 0
def rvV (L : List UInt8) : Nat := if rvN L = 0 then 0 else vv (L.take (rvN L))
theorem rvP_zero (L : List UInt8) : rvP L 0 = false := by simp [rvP, canon]
theorem rvN_at {L : List UInt8} {k : Nat} (h8 : k < 8) (h : rvP L k = true) (hno : ∀ j, j < k → rvP L j = false) : rvN L = k := by
  rw [rvN, show (List.range 8).find? (rvP L) = some k from by
    rw [List.find?_range_eq_some]
    exact ⟨h, by simpa using h8, fun j hj => by simp [hno j hj]⟩]
  rfl
theorem rvN_none {L : List UInt8} (hno : ∀ j, j < 8 → rvP L j = false) : rvN L = 0 := by
  rw [rvN, show (List.range 8).find? (rvP L) = none from by
    rw [List.find?_eq_none]
    intro j hj
    simp [hno j (by simpa using hj)]]
  rfl
theorem vv_snoc : ∀ (l : List UInt8) (b : UInt8), vv (l ++ [b]) = vv l + 128 ^ l.length * (b.toNat % 128)
  | [], b => by simp [vv]
  | a :: l, b => by
    rw [List.cons_append, vv, vv_snoc l b, vv, List.length_cons, Nat.pow_succ, Nat.mul_add, ← Nat.mul_assoc, Nat.mul_comm 128 (128 ^ l.length), Nat.add_assoc]
theorem vv_lt : ∀ (l : List UInt8), vv l < 128 ^ l.length
  | [] => by simp [vv]
  | a :: l => by
    have := vv_lt l
    rw [vv, List.length_cons, Nat.pow_succ]
    omega
theorem vv_lt7 (l : List UInt8) (h : l.length ≤ 7) : vv l < 562949953421312 := by
  have h1 := vv_lt l
  have h2 : (128 : Nat) ^ l.length ≤ 128 ^ 7 := Nat.pow_le_pow_right (by omega) h
  have : (128 : Nat) ^ 7 = 562949953421312 := by decide
  omega
end Go.Proofs.YtgfieeonlhcnhaaDoor
