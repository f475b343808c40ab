/-
  The text of a number with a point: plain Lean.
-/
import Derived.Test.YtgfieeonlhcnhaaDoorPlainE
import Derived.Test.YtgfieeonlhcnhaaDoorPlainA
namespace Go.Proofs.YtgfieeonlhcnhaaDoor
open Go.RowKit
set_option maxRecDepth 100000

/-- whole, a plus, the rest -/
def showP (m : Nat) : List UInt8 := Lib.itoa (m / 65536 : Nat) ++ 43 :: Lib.itoa (m % 65536 : Nat)
def showL (n : Int) : List UInt8 := if n < 0 then 45 :: showP n.natAbs else showP n.natAbs
def showS (n : Int) : ByteArray := if fxOk n = true then ⟨(showL n).toArray⟩ else ByteArray.empty
theorem fxOk_iff {n : Int} : fxOk n = true ↔ -2147483647 ≤ n ∧ n ≤ 2147483647 := by simp [fxOk]
theorem fxOk_yes {n : Int} (h0 : -2147483647 ≤ n) (h1 : n ≤ 2147483647) : fxOk n = true := fxOk_iff.2 ⟨h0, h1⟩
theorem fxOk_no {n : Int} (h : ¬ (-2147483647 ≤ n ∧ n ≤ 2147483647)) : fxOk n = false := by rw [Bool.eq_false_iff]; exact fun e => h (fxOk_iff.1 e)
theorem showS_ok {n : Int} (h0 : -2147483647 ≤ n) (h1 : n ≤ 2147483647) : showS n = ⟨(showL n).toArray⟩ := if_pos (fxOk_iff.2 ⟨h0, h1⟩)
theorem showS_no {n : Int} (h : ¬ (-2147483647 ≤ n ∧ n ≤ 2147483647)) : showS n = ByteArray.empty := if_neg (fun e => h (fxOk_iff.1 e))
theorem cat_pos (l1 l2 : List UInt8) : (⟨l1.toArray⟩ : ByteArray) ++ (⟨#[43]⟩ : ByteArray) ++ (⟨l2.toArray⟩ : ByteArray) = ⟨(l1 ++ 43 :: l2).toArray⟩ := by
  apply ByteArray.ext
  rw [ByteArray.data_append, ByteArray.data_append]
  simp
theorem cat_neg (l1 l2 : List UInt8) : (⟨#[45]⟩ : ByteArray) ++ (⟨l1.toArray⟩ : ByteArray) ++ (⟨#[43]⟩ : ByteArray) ++ (⟨l2.toArray⟩ : ByteArray) = ⟨((45 : UInt8) :: (l1 ++ 43 :: l2)).toArray⟩ := by
  apply ByteArray.ext
  rw [ByteArray.data_append, ByteArray.data_append, ByteArray.data_append]
  simp
theorem showP_ne (m : Nat) : showP m ≠ [] := by simp [showP]
theorem showL_ne (n : Int) : showL n ≠ [] := by
  rw [showL]
  split
  · simp
  · exact showP_ne _
/-- a string that may have no bytes -/
theorem showS_some (n : Int) : (showS n = ByteArray.empty) ↔ fxOk n = false := by
  cases h : fxOk n with
  | true =>
    rw [showS, if_pos h]
    simp only [Bool.true_eq_false, iff_false]
    intro e
    exact showL_ne n (by have := congrArg (fun b : ByteArray => b.data.toList) e; simpa using this)
  | false => simp [showS, h]

/-! ### reading it -/
def plus (c : UInt8) : Bool := c != 43
/-- what stands behind a sign -/
def bodyOf (l : List UInt8) : List UInt8 := if l.head? = some 45 then l.tail else l
def wholeOf (t : List UInt8) : List UInt8 := t.takeWhile plus
def restOf (t : List UInt8) : List UInt8 := (t.dropWhile plus).tail
def sgnOf (l : List UInt8) (n : Int) : Int := if l.head? = some 45 then -n else n
def rfix (l : List UInt8) : Option Int :=
  match rdec (wholeOf (bodyOf l)), rdec (restOf (bodyOf l)) with
  | some a, some b => if 0 ≤ a ∧ a ≤ 32767 ∧ 0 ≤ b ∧ b < 65536 ∧ showL (sgnOf l (a * 65536 + b)) = l then some (sgnOf l (a * 65536 + b)) else none
  | _, _ => none
theorem rfix_a {l : List UInt8} (h : rdec (wholeOf (bodyOf l)) = none) : rfix l = none := by rw [rfix, h]
theorem rfix_b {l : List UInt8} (h : rdec (restOf (bodyOf l)) = none) : rfix l = none := by
  rw [rfix, h]
  split
  · rename_i h; cases h
  · rfl
theorem rfix_ab {l : List UInt8} {a b : Int} (ha : rdec (wholeOf (bodyOf l)) = some a) (hb : rdec (restOf (bodyOf l)) = some b) :
    rfix l = if 0 ≤ a ∧ a ≤ 32767 ∧ 0 ≤ b ∧ b < 65536 ∧ showL (sgnOf l (a * 65536 + b)) = l then some (sgnOf l (a * 65536 + b)) else none := by rw [rfix, ha, hb]
theorem rdec_nil : rdec [] = none := rfl
/-- nothing else is read than what is shown -/
theorem rfix_some {l : List UInt8} {n : Int} (h : rfix l = some n) : showL n = l ∧ -2147483647 ≤ n ∧ n ≤ 2147483647 := by
  cases ha : rdec (wholeOf (bodyOf l)) with
  | none => rw [rfix_a ha] at h; cases h
  | some a =>
    cases hb : rdec (restOf (bodyOf l)) with
    | none => rw [rfix_b hb] at h; cases h
    | some b =>
      rw [rfix_ab ha hb] at h
      split at h
      · rename_i hc
        injection h with h
        subst h
        refine ⟨hc.2.2.2.2, ?_, ?_⟩ <;> (unfold sgnOf; split <;> omega)
      · cases h
theorem dec_noplus (m : Nat) : ∀ c ∈ Lib.decDigits m, plus c = true := by
  induction m using Nat.strongRecOn with
  | ind m ih =>
    intro c hc
    have hd : ∀ d, d ≤ 9 → plus (UInt8.ofNat (48 + d)) = true := by
      intro d hd
      simp only [plus, bne_iff_ne, ne_eq]
      intro e
      have := congrArg UInt8.toNat e
      rw [dig_toNat hd] at this
      have h43 : (43 : UInt8).toNat = 43 := by decide
      omega
    by_cases h10 : m < 10
    · rw [Lib.decDigits_one h10] at hc
      rw [List.mem_singleton.1 hc]
      exact hd m (by omega)
    · rw [Lib.decDigits, dif_neg h10] at hc
      rcases List.mem_append.1 hc with hc | hc
      · exact ih (m / 10) (by omega) c hc
      · rw [List.mem_singleton.1 hc]
        exact hd _ (by omega)
theorem nat_itoa (m : Nat) : Lib.itoa (m : Int) = Lib.decDigits m := by rw [Lib.itoa, if_neg (by omega)]; rfl
theorem takeWhile_app {p : UInt8 → Bool} : ∀ (l : List UInt8) (c : UInt8) (r : List UInt8), (∀ x ∈ l, p x = true) → p c = false → (l ++ c :: r).takeWhile p = l ∧ (l ++ c :: r).dropWhile p = c :: r
  | [], c, r, _, hc => by simp [hc]
  | x :: l, c, r, h, hc => by
    have ih := takeWhile_app l c r (fun y hy => h y (List.mem_cons_of_mem _ hy)) hc
    have hx := h x (List.mem_cons_self ..)
    simp [hx, ih.1, ih.2]
theorem showP_head (m : Nat) : (showP m).head? ≠ some 45 := by
  rw [showP, nat_itoa]
  cases hd : Lib.decDigits (m / 65536) with
  | nil => exact absurd hd (dec_ne _)
  | cons c r =>
    have hc := dec_head _ c r hd
    intro e
    injection e with e
    rw [e] at hc
    exact absurd hc.1 (by decide)
theorem body_show (n : Int) : bodyOf (showL n) = showP n.natAbs := by
  rw [showL]
  split
  · rfl
  · rw [bodyOf, if_neg (showP_head _)]
theorem whole_show (m : Nat) : wholeOf (showP m) = Lib.itoa (m / 65536 : Nat) ∧ restOf (showP m) = Lib.itoa (m % 65536 : Nat) := by
  have h := takeWhile_app (p := plus) (Lib.decDigits (m / 65536)) 43 (Lib.itoa (m % 65536 : Nat)) (dec_noplus _) rfl
  rw [wholeOf, restOf, showP, nat_itoa (m / 65536), h.1, h.2]
  exact ⟨rfl, rfl⟩
theorem rfix_show {n : Int} (h0 : -2147483647 ≤ n) (h1 : n ≤ 2147483647) : rfix (showL n) = some n := by
  have hb := body_show n
  have hw := whole_show n.natAbs
  have ha : rdec (wholeOf (bodyOf (showL n))) = some ((n.natAbs / 65536 : Nat) : Int) := by rw [hb, hw.1]; exact rdec_itoa (by omega) (by omega)
  have hr : rdec (restOf (bodyOf (showL n))) = some ((n.natAbs % 65536 : Nat) : Int) := by rw [hb, hw.2]; exact rdec_itoa (by omega) (by omega)
  have hs : sgnOf (showL n) (((n.natAbs / 65536 : Nat) : Int) * 65536 + ((n.natAbs % 65536 : Nat) : Int)) = n := by
    rw [sgnOf]
    by_cases hn : n < 0
    · rw [showL, if_pos hn, if_pos (by rfl)]; omega
    · rw [showL, if_neg hn, if_neg (showP_head _)]; omega
  rw [rfix_ab ha hr, hs, if_pos ⟨by omega, by omega, by omega, by omega, rfl⟩]
def rfixV (l : List UInt8) : Value := .tuple #[.int .i64 ((rfix l).getD 0), .bool (rfix l).isSome]
theorem rfixV_none {l : List UInt8} (h : rfix l = none) : rfixV l = .tuple #[.int .i64 0, .bool false] := by rw [rfixV, h]; rfl
theorem rfixV_some {l : List UInt8} {n : Int} (h : rfix l = some n) : rfixV l = .tuple #[.int .i64 n, .bool true] := by rw [rfixV, h]; rfl
end Go.Proofs.YtgfieeonlhcnhaaDoor
