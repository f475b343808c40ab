/-
  The contracts of ReadVar.
-/
import Derived.Test.YtgfieeonlhcnhaaDoorStr
import Derived.Test.YtgfieeonlhcnhaaDoorPlainR
import Derived.WalkKit
import Derived.BigQuiet
import Derived.Lib.QuietBelow
namespace Go.Proofs.YtgfieeonlhcnhaaDoor
open Go.RowKit Go.Sort
set_option maxRecDepth 100000

theorem toI_back (l : List UInt8) : (toI l).map (fun n => UInt8.ofNat n.toNat) = l := by
  simp [toI, List.map_map, Function.comp_def]
theorem str_take (s : ByteArray) (k : Nat) : strOfNums (toI (s.data.toList.take k)) = s.extract 0 k := by
  apply ByteArray.ext
  apply Array.ext'
  show (strOfNums (toI (s.data.toList.take k))).data.toList = _
  rw [strOfNums_data, toI_back]
  simp
theorem varI_bd : ∀ (n : Nat), ∀ x ∈ varI n, 0 ≤ x ∧ x < 256 := by
  intro n
  induction n using Nat.strongRecOn with
  | _ n ih =>
    intro x hx
    by_cases hn : n < 128
    · rw [varI_small hn] at hx; simp at hx; omega
    · rw [varI_big hn] at hx
      rcases List.mem_cons.1 hx with rfl | hx
      · omega
      · exact ih (n / 128) (by omega) x hx
theorem var_eq {n : Nat} {l : List UInt8} (h : strOfNums (varI n) = strOfNums (toI l)) : varI n = toI l := by
  have h1 : (varI n).map (fun n => UInt8.ofNat n.toNat) = l := by
    have : (strOfNums (varI n)).data.toList = (strOfNums (toI l)).data.toList := by rw [h]
    rw [strOfNums_data, strOfNums_data, toI_back] at this
    exact this
  rw [← h1, toI, List.map_map]
  conv => lhs; rw [← List.map_id (varI n)]
  refine List.map_congr_left fun x hx => ?_
  have := varI_bd n x hx
  simp only [id, Function.comp]
  have e : x.toNat < 256 := by omega
  rw [UInt8.toNat_ofNat_of_lt' (by simpa using e)]
  omega
theorem var_take (s : ByteArray) (k : Nat) (hk : 1 ≤ k) (hk' : k ≤ s.size) : strOfNums (varI (vv (s.data.toList.take k))) = s.extract 0 k ↔ canon (s.data.toList.take k) = true := by
  rw [← str_take]
  constructor
  · intro h
    refine canon_var _ (fun he => ?_) (var_eq h)
    have : (s.data.toList.take k).length = 0 := by rw [he]; rfl
    rw [List.length_take] at this
    have hl : s.data.toList.length = s.size := by simp
    omega
  · intro h; rw [var_canon _ h]
theorem drop_take (s : ByteArray) (k t : Nat) (h : t < k) (hk : k ≤ s.size) : (s.data.toList.take k).drop t = s[t] :: (s.data.toList.take k).drop (t + 1) := by
  have hl : s.data.toList.length = s.size := by simp
  rw [List.drop_eq_getElem_cons (by rw [List.length_take]; omega)]
  congr 1
  simp
  rfl
theorem rv_hi {s : ByteArray} {L : List UInt8} (hL : L = s.data.toList) {i : Nat} (hi : ∀ j (hj : j < s.size), j < i → 128 ≤ s[j].toNat) : ∀ k, k ≤ i → rvP L k = false := by
  intro k hk
  have hll : L.length = s.size := by rw [hL]; simp
  rw [rvP]
  by_cases hks : k ≤ L.length
  · have : canon (L.take k) = false := by
      cases hc : canon (L.take k)
      · rfl
      · have := (canon_iff _).1 hc
        have hl : (L.take k).length = k := by rw [List.length_take]; omega
        by_cases hk0 : k = 0
        · subst hk0; simp at this
        · have hlt : k - 1 < s.size := by omega
          have h3 := (this.2.2 s[k - 1] (by rw [hl, List.getElem?_take, if_pos (by omega), hL, List.getElem?_eq_getElem (by simp; omega)]; simp; rfl)).1
          have := hi (k - 1) hlt (by omega)
          omega
    rw [this, Bool.and_false]
  · rw [decide_eq_false hks, Bool.false_and]
theorem rv_last {s : ByteArray} {L : List UInt8} (hL : L = s.data.toList) {i : Nat} (his : i < s.size) (hi : ∀ j (hj : j < s.size), j < i → 128 ≤ s[j].toNat) (hb : s[i].toNat < 128) (h0 : 0 < i → s[i].toNat ≠ 0) : rvP L (i + 1) = true := by
  have hll : L.length = s.size := by rw [hL]; simp
  rw [rvP, decide_eq_true (by omega), Bool.true_and, canon_iff]
  have hl : (L.take (i + 1)).length = i + 1 := by rw [List.length_take]; omega
  refine ⟨fun h => by rw [h] at hl; simp at hl, fun j b hj hjl => ?_, fun b hj => ?_⟩
  · rw [hl] at hjl
    rw [List.getElem?_take, if_pos (by omega), hL, List.getElem?_eq_getElem (by simp; omega)] at hj
    have := hi j (by omega) (by omega)
    simp at hj
    rw [← hj]
    exact this
  · rw [hl, Nat.add_sub_cancel, List.getElem?_take, if_pos (by omega), hL, List.getElem?_eq_getElem (by simp; omega)] at hj
    simp at hj
    rw [← hj]
    refine ⟨hb, fun h => h0 (by rw [hl] at h; omega)⟩
theorem rv_dead {s : ByteArray} {L : List UInt8} (hL : L = s.data.toList) {i : Nat} (his : i < s.size) (hi0 : 0 < i) (hi : ∀ j (hj : j < s.size), j < i → 128 ≤ s[j].toNat) (hb : s[i].toNat = 0) : ∀ k, rvP L k = false := by
  intro k
  by_cases hk : k ≤ i
  · exact rv_hi hL hi k hk
  have hll : L.length = s.size := by rw [hL]; simp
  rw [rvP]
  by_cases hks : k ≤ L.length
  · have : canon (L.take k) = false := by
      cases hc : canon (L.take k)
      · rfl
      · have := (canon_iff _).1 hc
        have hl : (L.take k).length = k := by rw [List.length_take]; omega
        have hg : (L.take k)[i]? = some s[i] := by rw [List.getElem?_take, if_pos (by omega), hL, List.getElem?_eq_getElem (by simp; omega)]; simp; rfl
        by_cases hki : k = i + 1
        · have h3 := (this.2.2 s[i] (by rw [hl, hki, Nat.add_sub_cancel]; rw [hki] at hg; exact hg)).2 (by omega)
          omega
        · have h3 := this.2.1 i s[i] hg (by omega)
          omega
    rw [this, Bool.and_false]
  · rw [decide_eq_false hks, Bool.false_and]
set_option maxHeartbeats 2000000 in
theorem impl_ReadVar (s : ByteArray) (w : World) (hs : s.size ≤ 1048576) :
    Calls Tryd.prog 24 #[.string s] w fun e w' => e = .returned (.tuple #[.int .i64 (rvV s.data.toList), .int .i64 (rvN s.data.toList)]) ∧ w = w' := by
  have hll : s.data.toList.length = s.size := by simp
  obtain ⟨L, hL⟩ : ∃ L, L = s.data.toList := ⟨_, rfl⟩
  rw [← hL] at hll ⊢
  have HL := hide hL
  have HLL := hide hll
  clear hL hll
  go_enter Tryd.func24, Tryd.ntmps24
  go_wp2_with fail
  go_loop [4, 5] (fun q i => ∃ k : Nat, k ≤ 7 ∧ k ≤ s.size ∧ i = .int .i64 (k : Int) ∧ Hid (∀ j (hj : j < s.size), j < k → 128 ≤ s[j].toNat) ∧ ∃ z : Int, q = .int .i64 z ∧ 0 ≤ z ∧ Hid (z = (vv (L.take k) : Nat)))
    (fun _ i => 7 - (intOf i).toNat)
  case atStart => exact ⟨0, by omega, by omega, rfl, fun j hj hj0 => absurd hj0 (by omega), 0, rfl, by omega, by simp [Hid, vv]⟩
  case round =>
    obtain ⟨k, hk7, hks, rfl, hhi, z, rfl, hz0, hz⟩ := hrel
    by_cases hc : k < s.size ∧ k < 7
    case neg =>
      have HN := hide (rvN_none (L := L) (fun j hj => by
        by_cases hjk : j ≤ k
        · exact rv_hi HL.out hhi.out j hjk
        · rw [rvP, decide_eq_false (by rw [HLL.out]; omega), Bool.false_and]))
      have hcase : ¬ (k : Int) < (s.size : Int) ∨ ((k : Int) < (s.size : Int) ∧ ¬ (k : Int) < 7) := by omega
      rcases hcase with h1 | ⟨h1, h2⟩
      all_goals
        go_wp2_with fail
        go_ret2
        exact ⟨by rw [rvV, HN.out]; rfl, rfl⟩
    obtain ⟨hlt, h7⟩ := hc
    have hz1 : z ≤ 4398046511103 := by
      have h1 := vv_lt (L.take k)
      have h2 : (128 : Nat) ^ (L.take k).length ≤ 128 ^ 6 := Nat.pow_le_pow_right (by omega) (by rw [List.length_take]; omega)
      have h3 : (128 : Nat) ^ 6 = 4398046511104 := by decide
      have := hz.out
      omega
    have hsn : vv (L.take (k + 1)) = vv (L.take k) + 128 ^ k * (s[k].toNat % 128) := by
      have e : L.take (k + 1) = L.take k ++ [s[k]] := by rw [HL.out]; exact take_snoc s k hlt
      rw [e, vv_snoc, List.length_take, Nat.min_eq_left (by rw [HLL.out]; omega)]
    have HSN := hide hsn
    obtain ⟨c, hcc⟩ : ∃ c : Int, (s[k].toNat : Int) = c := ⟨_, rfl⟩
    have hc0 : 0 ≤ c ∧ c < 256 := by have := s[k].toNat_lt; omega
    have HC := hide hcc
    have hw2 : ((s[k].toNat : Int)).tmod 128 = (s[k].toNat : Int) % 128 := IntWalk.rem_in _ _ (by omega)
    have hk0 : (0 : Int) ≤ (k : Int) := by omega
    have hk1 : (k : Int) < (s.size : Int) := by omega
    have hk2 : (k : Int) < 7 := by omega
    obtain ⟨v, hvv⟩ : ∃ v : Int, v = (vv (L.take (k + 1)) : Nat) := ⟨_, rfl⟩
    have hval : Go.RowKit.wrap64 (z + Go.RowKit.wrap64 (c % 128 * 2 ^ (7 * k))) = v := by
      have h1 := vv_lt7 (L.take (k + 1)) (by rw [List.length_take]; omega)
      have h2 : (c % 128 * 2 ^ (7 * k) : Int) = ((128 ^ k * (s[k].toNat % 128) : Nat) : Int) := by
        rw [← hcc, Int.pow_mul, Int.natCast_mul, Int.natCast_pow, Int.mul_comm]
        rfl
      rw [h2]
      have h3 := hz.out
      unfold Go.RowKit.wrap64
      omega
    have hv0 : 0 ≤ v := by omega
    have HV := hide hvv
    clear hsn hvv
    by_cases hc128 : c < 128
    · by_cases hkz : 0 < k
      · by_cases hcz : c = 0
        · have HN := hide (rvN_none (L := L) (fun j _ => rv_dead HL.out hlt hkz hhi.out (by omega) j))
          have hce : (c == 0) = true := by simp [hcz]
          clear hcz
          go_wp2_with fail
          go_ret2
          exact ⟨by rw [rvV, HN.out]; rfl, rfl⟩
        · have HN := hide (rvN_at (L := L) (k := k + 1) (by omega) (rv_last HL.out hlt hhi.out (by omega) (fun _ => by omega)) (fun j hj => rv_hi HL.out hhi.out j (by omega)))
          have hce : (c == 0) = false := by simp [hcz]
          go_wp2_with fail
          go_ret2
          exact ⟨by rw [rvV, HN.out, if_neg (by omega), ← HV.out]; rfl, rfl⟩
      · have HN := hide (rvN_at (L := L) (k := k + 1) (by omega) (rv_last HL.out hlt hhi.out (by omega) (fun h => absurd h hkz)) (fun j hj => rv_hi HL.out hhi.out j (by omega)))
        go_wp2_with fail
        go_ret2
        exact ⟨by rw [rvV, HN.out, if_neg (by omega), ← HV.out]; rfl, rfl⟩
    · have HB := hide (show 128 ≤ s[k].toNat by omega)
      go_wp2_with fail
      go_round
      case rel => exact ⟨k + 1, by omega, by omega, by go_num, fun j hj hjk => by
        by_cases hjk' : j < k
        · exact hhi.out j hj hjk'
        · obtain rfl : j = k := by omega
          exact HB.out, v, by rw [hval], hv0, HV.out⟩
      case measure => simp [intOf]; omega
end Go.Proofs.YtgfieeonlhcnhaaDoor
