/-
  Numerals that are read: plain Lean.
-/
import Derived.Test.YtgfieeonlhcnhaaDoorPlainD
namespace Go.Proofs.YtgfieeonlhcnhaaDoor
open Go.RowKit
set_option maxRecDepth 100000

def dstep (p : Nat × Nat) (c : UInt8) : Nat × Nat := if 48 ≤ c.toNat ∧ c.toNat ≤ 57 then (p.1 * 10 + (c.toNat - 48), p.2 + 1) else p
/-- what the digits among these bytes spell, and how many they are -/
def dfold (l : List UInt8) : Nat × Nat := l.foldl dstep (0, 0)
theorem dfold_nil : dfold [] = (0, 0) := rfl
theorem dfold_snoc (l : List UInt8) (c : UInt8) : dfold (l ++ [c]) = dstep (dfold l) c := by simp [dfold, List.foldl_append]
theorem dstep_yes (p : Nat × Nat) (c : UInt8) (h0 : 48 ≤ c.toNat) (h1 : c.toNat ≤ 57) : dstep p c = (p.1 * 10 + (c.toNat - 48), p.2 + 1) := if_pos ⟨h0, h1⟩
theorem dstep_no (p : Nat × Nat) (c : UInt8) (h : ¬ (48 ≤ c.toNat ∧ c.toNat ≤ 57)) : dstep p c = p := if_neg h
theorem dstep_bound (p : Nat × Nat) (c : UInt8) (h : p.1 < 10 ^ p.2) : (dstep p c).1 < 10 ^ (dstep p c).2 ∧ (dstep p c).2 ≤ p.2 + 1 := by
  by_cases hc : 48 ≤ c.toNat ∧ c.toNat ≤ 57
  · rw [dstep_yes p c hc.1 hc.2]
    refine ⟨?_, Nat.le_refl _⟩
    show p.1 * 10 + (c.toNat - 48) < 10 ^ (p.2 + 1)
    rw [Nat.pow_succ]
    omega
  · rw [dstep_no p c hc]
    exact ⟨h, by omega⟩
theorem foldl_bound : ∀ (l : List UInt8) (p : Nat × Nat), p.1 < 10 ^ p.2 → (l.foldl dstep p).1 < 10 ^ (l.foldl dstep p).2 ∧ (l.foldl dstep p).2 ≤ p.2 + l.length
  | [], p, h => ⟨h, Nat.le_refl _⟩
  | c :: r, p, h => by
    have h1 := dstep_bound p c h
    have h2 := foldl_bound r (dstep p c) h1.1
    rw [List.foldl_cons, List.length_cons]
    exact ⟨h2.1, by omega⟩
theorem dfold_bound (l : List UInt8) : (dfold l).1 < 10 ^ (dfold l).2 ∧ (dfold l).2 ≤ l.length := by
  have := foldl_bound l (0, 0) (by decide)
  refine ⟨this.1, ?_⟩
  have h := this.2
  simp only [Nat.zero_add] at h
  exact h
theorem dfold_lt (l : List UInt8) (k : Nat) (h : (dfold l).2 ≤ k) : (dfold l).1 < 10 ^ k :=
  Nat.lt_of_lt_of_le (dfold_bound l).1 (Nat.pow_le_pow_right (by omega) h)
theorem dig_toNat {d : Nat} (h : d ≤ 9) : (UInt8.ofNat (48 + d)).toNat = 48 + d := by rw [UInt8.toNat_ofNat']; omega
theorem dfold_dec (m : Nat) : dfold (Lib.decDigits m) = (m, Lib.nDigits m) := by
  induction m using Nat.strongRecOn with
  | ind m ih =>
    by_cases h : m < 10
    · rw [Lib.decDigits_one h, Lib.nDigits_small h]
      show dstep (0, 0) (UInt8.ofNat (48 + m)) = (m, 1)
      rw [dstep_yes _ _ (by rw [dig_toNat (by omega)]; omega) (by rw [dig_toNat (by omega)]; omega), dig_toNat (by omega)]
      refine Prod.ext ?_ rfl
      show 0 * 10 + (48 + m - 48) = m
      omega
    · rw [Lib.decDigits, dif_neg h, Lib.nDigits_big h, dfold_snoc, ih (m / 10) (by omega)]
      rw [dstep_yes _ _ (by rw [dig_toNat (by omega)]; omega) (by rw [dig_toNat (by omega)]; omega), dig_toNat (by omega)]
      refine Prod.ext ?_ rfl
      show m / 10 * 10 + (48 + m % 10 - 48) = m
      omega
theorem dfold_minus (l : List UInt8) : dfold (45 :: l) = dfold l := by
  show l.foldl dstep (dstep (0, 0) 45) = _
  rw [show dstep (0, 0) 45 = (0, 0) from by decide]
  rfl
theorem dfold_itoa (n : Int) : dfold (Lib.itoa n) = (n.natAbs, Lib.nDigits n.natAbs) := by
  by_cases h : n < 0
  · rw [itoa_neg h, dfold_minus, dfold_dec]
  · rw [Lib.itoa, if_neg h, dfold_dec, show n.toNat = n.natAbs from by omega]

theorem parse_append : ∀ (l1 l2 : List UInt8) (acc : Nat) (v : Nat), Lib.parseUint10 acc l1 = .ok v → Lib.parseUint10 acc (l1 ++ l2) = Lib.parseUint10 v l2
  | [], l2, acc, v, h => by
    simp only [Lib.parseUint10] at h
    injection h with h
    subst h
    rfl
  | c :: r, l2, acc, v, h => by
    simp only [List.cons_append, Lib.parseUint10] at h ⊢
    split at h
    · rename_i hc
      rw [if_pos hc]
      split at h
      · cases h
      · rename_i h1
        rw [if_neg h1]
        split at h
        · cases h
        · rename_i h2
          rw [if_neg h2]
          exact parse_append r l2 _ v h
    · cases h
theorem parse_dig (acc d : Nat) (hd : d ≤ 9) (h : acc * 10 + d < 18446744073709551616) : Lib.parseUint10 acc [UInt8.ofNat (48 + d)] = .ok (acc * 10 + d) := by
  have hv : acc * 10 + (48 + d - 48) = acc * 10 + d := by omega
  simp only [Lib.parseUint10]
  rw [dig_toNat hd, if_pos (by omega), if_neg (by omega), if_neg (by omega), hv]
theorem parse_dec (m : Nat) (hm : m < 18446744073709551616) : Lib.parseUint10 0 (Lib.decDigits m) = .ok m := by
  induction m using Nat.strongRecOn with
  | ind m ih =>
    by_cases h : m < 10
    · rw [Lib.decDigits_one h, parse_dig 0 m (by omega) (by omega)]
      rw [show 0 * 10 + m = m from by omega]
    · rw [Lib.decDigits, dif_neg h, parse_append _ _ _ _ (ih (m / 10) (by omega) (by omega)), parse_dig _ _ (by omega) (by omega)]
      rw [show m / 10 * 10 + m % 10 = m from by omega]
theorem dec_ne (m : Nat) : Lib.decDigits m ≠ [] := by
  rw [Lib.decDigits]
  split <;> simp
theorem dec_head (m : Nat) : ∀ c r, Lib.decDigits m = c :: r → 48 ≤ c.toNat ∧ c.toNat ≤ 57 := by
  induction m using Nat.strongRecOn with
  | ind m ih =>
    intro c r h
    by_cases h10 : m < 10
    · rw [Lib.decDigits_one h10] at h
      injection h with h _
      rw [← h, dig_toNat (by omega)]
      omega
    · rw [Lib.decDigits, dif_neg h10] at h
      cases hd : Lib.decDigits (m / 10) with
      | nil => exact absurd hd (dec_ne _)
      | cons c' r' =>
        rw [hd] at h
        injection h with h _
        subst h
        exact ih (m / 10) (by omega) c' r' hd
theorem parseMag_dec (m : Nat) (hm : m < 18446744073709551616) : Lib.parseMag (Lib.decDigits m) = .ok m := by
  rw [Lib.parseMag, if_neg (dec_ne m), parse_dec m hm]
theorem atoi_itoa {n : Int} (h0 : -9223372036854775808 ≤ n) (h1 : n ≤ 9223372036854775807) : Lib.atoiAll (Lib.itoa n) = .ok n := by
  by_cases h : n < 0
  · rw [itoa_neg h]
    simp only [Lib.atoiAll]
    rw [if_pos (Or.inr (by decide)), parseMag_dec _ (by omega)]
    simp only []
    rw [if_neg (by simp), if_neg (by omega), if_pos (by decide)]
    congr 1
    omega
  · have hn : n.toNat = n.natAbs := by omega
    rw [Lib.itoa, if_neg h, hn]
    cases hd : Lib.decDigits n.natAbs with
    | nil => exact absurd hd (dec_ne _)
    | cons c r =>
      have hc := dec_head _ c r hd
      simp only [Lib.atoiAll]
      rw [if_neg (by omega), ← hd, parseMag_dec _ (by omega)]
      simp only []
      rw [if_neg (by omega), if_neg (by omega), if_neg (by omega)]
      congr 1
      omega
theorem itoa_inj {n m : Int} (h0 : -9223372036854775808 ≤ n) (h1 : n ≤ 9223372036854775807) (g0 : -9223372036854775808 ≤ m) (g1 : m ≤ 9223372036854775807) (h : Lib.itoa n = Lib.itoa m) : n = m := by
  have e := atoi_itoa h0 h1
  rw [h, atoi_itoa g0 g1] at e
  injection e with e
  exact e.symm
theorem nDigits_lt : ∀ (k m : Nat), m < 10 ^ (k + 1) → Lib.nDigits m ≤ k + 1
  | 0, m, h => by rw [Lib.nDigits_small (by simpa using h)]; omega
  | k + 1, m, h => by
    by_cases h10 : m < 10
    · rw [Lib.nDigits_small h10]; omega
    · have := nDigits_lt k (m / 10) (by rw [Nat.pow_succ] at h; omega)
      rw [Lib.nDigits_big h10]
      omega
theorem nDigits_9 {m : Nat} (h : m ≤ 999999999) : Lib.nDigits m ≤ 9 := nDigits_lt 8 m (by omega)
theorem itoa_len10 {n : Int} (h0 : -999999999 ≤ n) (h1 : n ≤ 999999999) : (Lib.itoa n).length ≤ 10 := by
  have := nDigits_9 (m := n.natAbs) (by omega)
  by_cases h : n < 0
  · rw [itoa_neg h, List.length_cons, Lib.decDigits_length]; omega
  · rw [Lib.itoa, if_neg h, Lib.decDigits_length, show n.toNat = n.natAbs from by omega]; omega
theorem itoa_head (n : Int) : (Lib.itoa n).head? = some 45 ↔ n < 0 := by
  by_cases h : n < 0
  · rw [itoa_neg h]; simp [h]
  · rw [Lib.itoa, if_neg h]
    cases hd : Lib.decDigits n.toNat with
    | nil => exact absurd hd (dec_ne _)
    | cons c r =>
      have hc := dec_head _ c r hd
      simp only [List.head?_cons, Option.some.injEq, h, iff_false]
      rintro rfl
      exact absurd hc.1 (by decide)

/-- what ReadDec reads, if anything -/
def rdec (l : List UInt8) : Option Int :=
  match Lib.atoiAll l with
  | .ok n => if Lib.itoa n = l ∧ -999999999 ≤ n ∧ n ≤ 999999999 then some n else none
  | _ => none
theorem rdec_itoa {n : Int} (h0 : -999999999 ≤ n) (h1 : n ≤ 999999999) : rdec (Lib.itoa n) = some n := by
  rw [rdec, atoi_itoa (by omega) (by omega)]
  simp only []
  exact if_pos ⟨trivial, h0, h1⟩
theorem rdec_some {l : List UInt8} {n : Int} (h : rdec l = some n) : Lib.itoa n = l ∧ -999999999 ≤ n ∧ n ≤ 999999999 := by
  rw [rdec] at h
  split at h
  · split at h
    · rename_i hc
      injection h with h
      subst h
      exact hc
    · cases h
  · cases h
theorem rdec_ok {l : List UInt8} {n : Int} (h : Lib.atoiAll l = .ok n) : rdec l = if Lib.itoa n = l ∧ -999999999 ≤ n ∧ n ≤ 999999999 then some n else none := by rw [rdec, h]
theorem rdec_syn {l : List UInt8} (h : Lib.atoiAll l = .syntax) : rdec l = none := by rw [rdec, h]
theorem rdec_ran {l : List UInt8} (h : Lib.atoiAll l = .range) : rdec l = none := by rw [rdec, h]
/-- the number that the reference's loop comes to -/
def rsgn (l : List UInt8) : Int := if l.head? = some 45 then -((dfold (l.take 11)).1 : Int) else (dfold (l.take 11)).1
theorem rdec_yes {l : List UInt8} (hk : (dfold (l.take 11)).2 ≤ 9) (he : Lib.itoa (rsgn l) = l) : rdec l = some (rsgn l) := by
  have h1 := dfold_lt _ 9 hk
  have hb : -999999999 ≤ rsgn l ∧ rsgn l ≤ 999999999 := by
    rw [rsgn]
    split <;> omega
  have := rdec_itoa hb.1 hb.2
  rw [he] at this
  exact this
theorem rdec_no {l : List UInt8} {n : Int} (h : rdec l = some n) : (dfold (l.take 11)).2 ≤ 9 ∧ l.length ≤ 10 ∧ rsgn l = n ∧ Lib.itoa n = l := by
  obtain ⟨he, h0, h1⟩ := rdec_some h
  have hl := itoa_len10 h0 h1
  rw [he] at hl
  have ht : l.take 11 = l := List.take_of_length_le (by omega)
  have hd : dfold l = (n.natAbs, Lib.nDigits n.natAbs) := by rw [← dfold_itoa n, he]
  have hh := itoa_head n
  rw [he] at hh
  refine ⟨?_, hl, ?_, he⟩
  · rw [ht, hd]
    exact nDigits_9 (by omega)
  · rw [rsgn, ht, hd]
    by_cases hn : n < 0
    · rw [if_pos (hh.2 hn)]; show -((n.natAbs : Nat) : Int) = n; omega
    · rw [if_neg (fun e => hn (hh.1 e))]; show ((n.natAbs : Nat) : Int) = n; omega
theorem rdec_far {l : List UInt8} (h : 9 < (dfold (l.take 11)).2 ∨ 10 < l.length ∨ Lib.itoa (rsgn l) ≠ l) : rdec l = none := by
  cases hr : rdec l with
  | none => rfl
  | some n =>
    obtain ⟨h1, h2, h3, h4⟩ := rdec_no hr
    rw [h3] at h
    rcases h with h | h | h
    · omega
    · omega
    · exact absurd h4 h
/-- the answer's two values -/
def rdN (r : Option Int) : Int := r.getD 0
def rdecV (l : List UInt8) : Value := .tuple #[.int .i64 ((rdec l).getD 0), .bool (rdec l).isSome]
theorem rdecV_none {l : List UInt8} (h : rdec l = none) : rdecV l = .tuple #[.int .i64 0, .bool false] := by rw [rdecV, h]; rfl
theorem rdecV_some {l : List UInt8} {n : Int} (h : rdec l = some n) : rdecV l = .tuple #[.int .i64 n, .bool true] := by rw [rdecV, h]; rfl
end Go.Proofs.YtgfieeonlhcnhaaDoor
