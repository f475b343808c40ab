/-
  What is written is read again: plain Lean.
-/
import Derived.Test.YtgfieeonlhcnhaaDoorReadVar
import Derived.Test.YtgfieeonlhcnhaaDoorUnhex
import Derived.Test.YtgfieeonlhcnhaaDoorPlainE
namespace Go.Proofs.YtgfieeonlhcnhaaDoor
open Go.RowKit
set_option maxRecDepth 100000
def u8 (n : Int) : UInt8 := UInt8.ofNat n.toNat
theorem nums_data (l : List Int) : (strOfNums l).data.toList = l.map u8 := rfl
theorem nums_app (l : List Int) (s : ByteArray) : (strOfNums l ++ s).data.toList = l.map u8 ++ s.data.toList := by
  rw [ByteArray.data_append, Array.toList_append, nums_data]
theorem u8_nat {n : Nat} (h : n < 256) : (u8 (n : Int)).toNat = n := by
  rw [u8, UInt8.toNat_ofNat', Int.toNat_natCast]
  omega
theorem bytes_toI {l : List Int} (h : ∀ x ∈ l, 0 ≤ x ∧ x < 256) : toI (l.map u8) = l := by
  rw [toI, List.map_map]
  conv => rhs; rw [← List.map_id l]
  apply List.map_congr_left
  intro x hx
  have h1 := h x hx
  obtain ⟨k, rfl⟩ := Int.eq_ofNat_of_zero_le h1.1
  show ((u8 (k : Int)).toNat : Int) = (k : Int)
  rw [u8_nat (by omega)]
def vbs (n : Nat) : List UInt8 := (varI n).map u8
theorem vv_vbs (n : Nat) : vv (vbs n) = n := by
  induction n using Nat.strongRecOn with
  | ind n ih =>
    by_cases h : n < 128
    · rw [vbs, varI_small h]
      show (u8 (n : Int)).toNat % 128 + 128 * 0 = n
      rw [u8_nat (by omega)]
      omega
    · have := ih (n / 128) (by omega)
      rw [vbs] at this
      rw [vbs, varI_big h, List.map_cons, vv, this, u8_nat (by omega)]
      omega
theorem vbs_ne (n : Nat) : vbs n ≠ [] := by
  rw [vbs, varI]
  split <;> simp
theorem canon_vbs (n : Nat) : canon (vbs n) = true := canon_var _ (vbs_ne n) (by rw [vv_vbs, vbs, bytes_toI (varI_bd n)])
theorem canon_pre {l : List UInt8} (h : canon l = true) {j : Nat} (hj : j < l.length) : canon (l.take j) = false := by
  rw [Bool.eq_false_iff]
  intro hc
  obtain ⟨-, h1, -⟩ := (canon_iff l).1 h
  obtain ⟨h0, -, h2⟩ := (canon_iff _).1 hc
  have hj0 : 0 < j := by
    rcases Nat.eq_zero_or_pos j with h | h
    · subst h; simp at h0
    · exact h
  have hl : (l.take j).length = j := by rw [List.length_take]; omega
  have e1 : l[j - 1]? = some l[j - 1] := List.getElem?_eq_getElem (by omega)
  have h3 := h2 l[j - 1] (by rw [hl, List.getElem?_take, if_pos (by omega)]; exact e1)
  have h4 := h1 (j - 1) _ e1 (by omega)
  omega
theorem vbs_len {n : Nat} (hn : n ≤ 562949953421311) : (vbs n).length ≤ 7 := by
  rw [vbs, List.length_map]
  exact varI_len 6 n (by have : (128 : Nat) ^ (6 + 1) = 562949953421312 := by decide
                         omega)
theorem rv_var {n : Nat} (hn : n ≤ 562949953421311) (r : List UInt8) : rvN (vbs n ++ r) = (vbs n).length ∧ rvV (vbs n ++ r) = n := by
  have hl := vbs_len hn
  have hp := List.length_pos_iff.2 (vbs_ne n)
  have ht : (vbs n ++ r).take (vbs n).length = vbs n := List.take_left' rfl
  have hN : rvN (vbs n ++ r) = (vbs n).length := by
    refine rvN_at (by omega) ?_ fun j hj => ?_
    · simp [rvP, canon_vbs]
    · rw [rvP, List.take_append_of_le_length (by omega), canon_pre (canon_vbs n) hj, Bool.and_false]
  refine ⟨hN, ?_⟩
  rw [rvV, hN, if_neg (by omega), ht, vv_vbs]
theorem rv_back {L : List UInt8} (h : rvN L ≠ 0) : rvN L ≤ L.length ∧ canon (L.take (rvN L)) = true ∧ rvN L < 8 := by
  cases hf : (List.range 8).find? (rvP L) with
  | none => rw [rvN, hf] at h; exact absurd rfl h
  | some k =>
    have hk : rvN L = k := by rw [rvN, hf]; rfl
    have h1 := List.find?_some hf
    have h2 := List.mem_of_find?_eq_some hf
    rw [rvP, Bool.and_eq_true, decide_eq_true_eq] at h1
    rw [hk]
    exact ⟨h1.1, h1.2, by simpa using h2⟩
theorem var_back {s : ByteArray} (h : rvN s.data.toList ≠ 0) : varS (rvV s.data.toList : Nat) = s.extract 0 (rvN s.data.toList) := by
  obtain ⟨h1, h2, h3⟩ := rv_back h
  have hv : rvV s.data.toList = vv (s.data.toList.take (rvN s.data.toList)) := by rw [rvV, if_neg h]
  have hlt := vv_lt7 (s.data.toList.take (rvN s.data.toList)) (by rw [List.length_take]; omega)
  rw [varS, if_pos (by omega), Int.toNat_natCast, hv, var_canon _ h2, str_take]
theorem varS_yes {n : Int} (h0 : 0 ≤ n) (h1 : n ≤ 562949953421311) : varS n = strOfNums (varI n.toNat) := if_pos ⟨h0, h1⟩
theorem varS_no {n : Int} (h : ¬ (0 ≤ n ∧ n ≤ 562949953421311)) : varS n = ByteArray.empty := if_neg h
theorem var_read {n : Int} (h0 : 0 ≤ n) (h1 : n ≤ 562949953421311) (s : ByteArray) : (rvN (varS n ++ s).data.toList : Int) = (varS n).size ∧ (rvV (varS n ++ s).data.toList : Int) = n := by
  have h := rv_var (n := n.toNat) (by omega) s.data.toList
  rw [varS_yes h0 h1, nums_app, strOfNums_size]
  have e : (vbs n.toNat).length = (varI n.toNat).length := by rw [vbs, List.length_map]
  rw [e] at h
  rw [show (varI n.toNat).map u8 = vbs n.toNat from rfl, h.1, h.2]
  exact ⟨rfl, by omega⟩
theorem varS_size {n : Int} (h0 : 0 ≤ n) (h1 : n ≤ 562949953421311) : 1 ≤ (varS n).size ∧ (varS n).size ≤ 7 := by
  rw [varS_yes h0 h1, strOfNums_size]
  have e : (vbs n.toNat).length = (varI n.toNat).length := by rw [vbs, List.length_map]
  have := vbs_len (n := n.toNat) (by omega)
  have := List.length_pos_iff.2 (vbs_ne n.toNat)
  omega

/-! ### fixed width -/
theorem rd_fixL : ∀ (k m : Nat), m < 256 ^ k → rd ((fixL k m).map u8) = m
  | 0, m, h => by
    have : m = 0 := by simpa using h
    subst this
    rfl
  | k + 1, m, h => by
    rw [fixL_step, List.map_append, List.map_singleton, rd_snoc, rd_fixL k (m / 256) (by rw [Nat.pow_succ] at h; omega), u8_nat (by omega)]
    omega
theorem fixS_yes {n : Int} (h0 : 0 ≤ n) (h1 : n < 72057594037927936) : fixS n 7 = strOfNums (fixL 7 n.toNat) := by
  rw [fixS, if_pos]
  · rfl
  · refine ⟨by omega, by omega, h0, ?_⟩
    rw [show (7 : Int).toNat = 7 from rfl, show (256 : Nat) ^ 7 = 72057594037927936 from by decide]
    omega
theorem fixS_no {n : Int} (h : n < 0 ∨ 72057594037927936 ≤ n) : fixS n 7 = ByteArray.empty := by
  rw [fixS, if_neg]
  rintro ⟨-, -, h0, h1⟩
  rw [show (7 : Int).toNat = 7 from rfl, show (256 : Nat) ^ 7 = 72057594037927936 from by decide] at h1
  omega
theorem fix_size {n : Int} (h0 : 0 ≤ n) (h1 : n < 72057594037927936) : (fixS n 7).size = 7 := by rw [fixS_yes h0 h1, strOfNums_size, fixL_len]
theorem fix_read {n : Int} (h0 : 0 ≤ n) (h1 : n < 72057594037927936) (s : ByteArray) : rdB (fixS n 7 ++ s) 7 = true ∧ rdV (fixS n 7 ++ s) 7 = n := by
  have hb : rdB (fixS n 7 ++ s) 7 = true := by
    have : (fixS n 7 ++ s).size = 7 + s.size := by rw [ByteArray.size_append, fix_size h0 h1]
    simp [rdB, this]; omega
  refine ⟨hb, ?_⟩
  rw [rdV, if_pos hb, fixS_yes h0 h1, nums_app, show (7 : Int).toNat = 7 from rfl]
  rw [List.take_left' (by rw [List.length_map, fixL_len]), rd_fixL 7 n.toNat (by rw [show (256 : Nat) ^ 7 = 72057594037927936 from by decide]; omega)]
  omega

/-! ### decimal -/
theorem rdec_far2 {n : Int} (h0 : -9223372036854775808 ≤ n) (h1 : n ≤ 9223372036854775807) (h : n < -999999999 ∨ 999999999 < n) : rdec (Lib.itoa n) = none := by
  rw [rdec_ok (atoi_itoa h0 h1), if_neg]
  omega

/-! ### hex -/
theorem hexV_hexD (n : Int) (h0 : 0 ≤ n) (h1 : n < 16) : hexV (u8 (hexD n)) = n := by
  refine lt16 (P := fun n => hexV (u8 (hexD n)) = n) n h0 h1 ?_
  decide
theorem hexL_at : ∀ (l : List UInt8) (t : Nat) (h : t < l.length), ((hexL l).map u8).getD (2 * t) 0 = u8 (hexD ((l[t].toNat : Int) / 16)) ∧ ((hexL l).map u8).getD (2 * t + 1) 0 = u8 (hexD ((l[t].toNat : Int) % 16))
  | b :: l, 0, _ => ⟨rfl, rfl⟩
  | b :: l, t + 1, h => hexL_at l t (by simpa using h)
theorem hx_at (s : ByteArray) (t : Nat) (h : t < s.size) : hxA (strOfNums (hexL s.data.toList)) (2 * t) = (s[t].toNat : Int) / 16 ∧ hxA (strOfNums (hexL s.data.toList)) (2 * t + 1) = (s[t].toNat : Int) % 16 := by
  have h1 := hexL_at s.data.toList t (by simpa using h)
  have hb : s.data.toList[t]'(by simpa using h) = s[t] := rfl
  have hlt := s[t].toNat_lt
  rw [hb] at h1
  rw [hxA, hxA, nums_data, h1.1, h1.2]
  exact ⟨hexV_hexD _ (by omega) (by omega), hexV_hexD _ (by omega) (by omega)⟩
theorem hex_read (s : ByteArray) : uhOk (strOfNums (hexL s.data.toList)) = true ∧ uhS (strOfNums (hexL s.data.toList)) = s := by
  have hz : (strOfNums (hexL s.data.toList)).size = 2 * s.size := by rw [strOfNums_size, hexL_len]; simp
  have hok : uhOk (strOfNums (hexL s.data.toList)) = true := by
    refine uhOk_yes (by rw [hz]; omega) fun t ht => ?_
    have h := hx_at s t (by omega)
    rw [uhAt, h.1, h.2]
    have hlt := s[t].toNat_lt
    rw [decide_eq_true (by omega), decide_eq_true (by omega)]
    rfl
  refine ⟨hok, ?_⟩
  rw [uhS, if_pos hok, hz, show 2 * s.size / 2 = s.size from by omega]
  apply ByteArray.ext
  apply Array.toList_inj.1
  rw [nums_data, uhL, List.map_map]
  apply List.ext_getElem
  · simp
  · intro i h1 h2
    have hi : i < s.size := by simpa using h2
    have h := hx_at s i hi
    rw [List.getElem_map, List.getElem_range]
    show u8 (uhV (strOfNums (hexL s.data.toList)) i) = s.data.toList[i]
    rw [uhV, h.1, h.2]
    have hb : s.data.toList[i]'(by simpa using hi) = s[i] := rfl
    have hlt := s[i].toNat_lt
    rw [hb, show 16 * ((s[i].toNat : Int) / 16) + (s[i].toNat : Int) % 16 = ((s[i].toNat : Nat) : Int) from by omega]
    apply UInt8.toNat_inj.1
    rw [u8_nat (by omega)]
end Go.Proofs.YtgfieeonlhcnhaaDoor
