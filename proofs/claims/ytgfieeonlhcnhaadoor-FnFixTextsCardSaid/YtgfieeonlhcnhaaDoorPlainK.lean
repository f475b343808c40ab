/-
  A text that is cut at its first plus: plain Lean.
-/
import Derived.Test.YtgfieeonlhcnhaaDoorPlainG
import Derived.Lib.Strings
namespace Go.Proofs.YtgfieeonlhcnhaaDoor
open Go.RowKit
set_option maxRecDepth 100000
theorem plus_cut : ∀ (l : List UInt8) (k : Nat), (∀ j, j < k → l[j]? ≠ some 43) → l[k]? = some 43 → wholeOf l = l.take k ∧ restOf l = l.drop (k + 1)
  | [], k, _, h => by simp at h
  | c :: r, 0, _, h => by
    obtain rfl : c = 43 := by simpa using h
    simp [wholeOf, restOf, plus]
  | c :: r, k + 1, h, hk => by
    have ih := plus_cut r k (fun j hj => by simpa using h (j + 1) (by omega)) (by simpa using hk)
    have hc : c ≠ 43 := by simpa using h 0 (by omega)
    have hp : plus c = true := by simpa [plus] using hc
    simp only [wholeOf, restOf] at ih ⊢
    simp [hp, ih.1, ih.2]
theorem plus_none : ∀ (l : List UInt8), (∀ j : Nat, l[j]? ≠ some 43) → wholeOf l = l ∧ restOf l = []
  | [], _ => ⟨rfl, rfl⟩
  | c :: r, h => by
    have ih := plus_none r (fun j => by simpa using h (j + 1))
    have hc : c ≠ 43 := by simpa using h 0
    have hp : plus c = true := by simpa [plus] using hc
    simp only [wholeOf, restOf] at ih ⊢
    simp [hp, ih.1, ih.2]
/-- the bytes of a text and of its body -/
structure Bod (s t : ByteArray) (neg : Bool) : Prop where
  body : bodyOf s.data.toList = t.data.toList
  sgn : ∀ n, sgnOf s.data.toList n = if neg then -n else n
  size : t.size ≤ s.size
  less : decide ((t.size : Int) < (s.size : Int)) = neg
theorem head_at (s : ByteArray) (h : 0 < s.size) : s.data.toList.head? = some s[0] := by
  rw [List.head?_eq_getElem?, List.getElem?_eq_getElem (by simpa using h)]
  rfl
theorem bod_neg (s : ByteArray) (h : 0 < s.size) (hc : s[0] = 45) : Bod s (s.extract 1 s.size) true := by
  have hh : s.data.toList.head? = some 45 := by rw [head_at s h, hc]
  have hd : (s.extract 1 s.size).data.toList = s.data.toList.drop 1 := by
    have := Lib.extract_toList s 1 s.size
    rw [Go.ByteArray.toList_eq] at this
    rw [this]
    exact List.take_of_length_le (by simp)
  have hz : (s.extract 1 s.size).size = s.size - 1 := by simp
  refine ⟨by rw [bodyOf, if_pos hh, hd, List.drop_one], fun n => by rw [sgnOf, if_pos hh]; rfl, by omega, ?_⟩
  rw [hz]
  simp only [decide_eq_true_eq]
  omega
theorem bod_pos (s : ByteArray) (h : s.size = 0 ∨ ∃ h : 0 < s.size, s[0] ≠ 45) : Bod s s false := by
  have hh : s.data.toList.head? ≠ some 45 := by
    rcases h with h | ⟨h, hc⟩
    · have : s.data.toList = [] := List.length_eq_zero_iff.1 (by simpa using h)
      rw [this]
      simp
    · rw [head_at s h]
      simpa using hc
  exact ⟨by rw [bodyOf, if_neg hh], fun n => by rw [sgnOf, if_neg hh]; rfl, Nat.le_refl _, by simp⟩
/-- the answers, by what the two parts read -/
theorem ans_a {s t : ByteArray} {neg : Bool} {x y : List UInt8} (h : Bod s t neg) (hw : wholeOf t.data.toList = x ∧ restOf t.data.toList = y) (ha : rdec x = none) : rfixV s.data.toList = .tuple #[.int .i64 0, .bool false] :=
  rfixV_none (rfix_a (by rw [h.body, hw.1, ha]))
theorem ans_b {s t : ByteArray} {neg : Bool} {x y : List UInt8} (h : Bod s t neg) (hw : wholeOf t.data.toList = x ∧ restOf t.data.toList = y) (hb : rdec y = none) : rfixV s.data.toList = .tuple #[.int .i64 0, .bool false] :=
  rfixV_none (rfix_b (by rw [h.body, hw.2, hb]))
theorem ans_far {s t : ByteArray} {neg : Bool} {x y : List UInt8} {a b : Int} (h : Bod s t neg) (hw : wholeOf t.data.toList = x ∧ restOf t.data.toList = y) (ha : rdec x = some a) (hb : rdec y = some b)
    (hf : ¬ (0 ≤ a ∧ a ≤ 32767 ∧ 0 ≤ b ∧ b < 65536)) : rfixV s.data.toList = .tuple #[.int .i64 0, .bool false] :=
  rfixV_none (by rw [rfix_ab (by rw [h.body, hw.1, ha]) (by rw [h.body, hw.2, hb]), if_neg]; rintro ⟨h1, h2, h3, h4, -⟩; exact hf ⟨h1, h2, h3, h4⟩)
theorem show_eq {s : ByteArray} {n : Int} (h0 : -2147483647 ≤ n) (h1 : n ≤ 2147483647) : showS n = s ↔ showL n = s.data.toList := by
  rw [showS_ok h0 h1]
  constructor
  · rintro rfl; rfl
  · intro h; rw [h]
theorem ans_yes {s t : ByteArray} {neg : Bool} {x y : List UInt8} {a b n : Int} (h : Bod s t neg) (hw : wholeOf t.data.toList = x ∧ restOf t.data.toList = y) (ha : rdec x = some a) (hb : rdec y = some b)
    (h1 : 0 ≤ a) (h2 : a ≤ 32767) (h3 : 0 ≤ b) (h4 : b < 65536) (hn : n = if neg then -(a * 65536 + b) else a * 65536 + b) (he : showS n = s) : rfixV s.data.toList = .tuple #[.int .i64 n, .bool true] :=
  rfixV_some (by
    have hb' : -2147483647 ≤ n ∧ n ≤ 2147483647 := by subst hn; cases neg <;> simp only [Bool.false_eq_true, if_true, if_false] <;> omega
    rw [rfix_ab (by rw [h.body, hw.1, ha]) (by rw [h.body, hw.2, hb]), h.sgn, ← hn, if_pos ⟨h1, h2, h3, h4, (show_eq hb'.1 hb'.2).1 he⟩])
theorem ans_no {s t : ByteArray} {neg : Bool} {x y : List UInt8} {a b n : Int} (h : Bod s t neg) (hw : wholeOf t.data.toList = x ∧ restOf t.data.toList = y) (ha : rdec x = some a) (hb : rdec y = some b)
    (h1 : 0 ≤ a) (h2 : a ≤ 32767) (h3 : 0 ≤ b) (h4 : b < 65536) (hn : n = if neg then -(a * 65536 + b) else a * 65536 + b) (he : ¬ showS n = s) : rfixV s.data.toList = .tuple #[.int .i64 0, .bool false] :=
  rfixV_none (by
    have hb' : -2147483647 ≤ n ∧ n ≤ 2147483647 := by subst hn; cases neg <;> simp only [Bool.false_eq_true, if_true, if_false] <;> omega
    rw [rfix_ab (by rw [h.body, hw.1, ha]) (by rw [h.body, hw.2, hb]), h.sgn, ← hn, if_neg]
    rintro ⟨-, -, -, -, h5⟩
    exact he ((show_eq hb'.1 hb'.2).2 h5))
/-- the body's bytes: those ahead of a plus, those behind it -/
theorem at_byte (t : ByteArray) (k : Nat) (h : k < t.size) : t.data.toList[k]? = some t[k] := by
  rw [List.getElem?_eq_getElem (by simpa using h)]
  rfl
theorem cut_at {t : ByteArray} {k : Nat} (h : k < t.size) (hc : t[k] = 43) (hj : ∀ j, j < k → t.data.toList[j]? ≠ some 43) :
    wholeOf t.data.toList = (t.extract 0 k).data.toList ∧ restOf t.data.toList = (t.extract (k + 1) t.size).data.toList := by
  have h1 := plus_cut t.data.toList k hj (by rw [at_byte t k h, hc])
  have e1 := Lib.extract_toList t 0 k
  have e2 := Lib.extract_toList t (k + 1) t.size
  rw [Go.ByteArray.toList_eq] at e1 e2
  rw [h1.1, h1.2, e1, e2]
  refine ⟨by simp, ?_⟩
  exact (List.take_of_length_le (by simp)).symm
theorem cut_not {t : ByteArray} (hj : ∀ j, j < t.size → t.data.toList[j]? ≠ some 43) : wholeOf t.data.toList = t.data.toList ∧ restOf t.data.toList = [] := by
  refine plus_none _ fun j => ?_
  by_cases h : j < t.size
  · exact hj j h
  · rw [List.getElem?_eq_none (by simp; omega)]
    simp
end Go.Proofs.YtgfieeonlhcnhaaDoor
