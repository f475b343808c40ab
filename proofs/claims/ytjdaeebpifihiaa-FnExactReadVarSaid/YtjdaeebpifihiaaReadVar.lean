/-
  The contracts of ReadVar.
-/
import Derived.Test.YtjdaeebpifihiaaStr
import Derived.Test.YtjdaeebpifihiaaPlainR
import Derived.WalkKit
import Derived.BigQuiet
import Derived.Lib.QuietBelow
namespace Go.Proofs.Ytjdaeebpifihiaa
open Go.RowKit Go.Sort

theorem toI_back (l : List UInt8) : (toI l).map (fun n => UInt8.ofNat n.toNat) = l := by
  simp [toI, List.map_map, Function.comp_def]
theorem str_take (s : ByteArray) (k : Nat) : strOfNums (toI (s.data.toList.take k)) = s.extract 0 k := by
  apply ByteArray.ext
  apply Array.ext'
  show (strOfNums (toI (s.data.toList.take k))).data.toList = _
  rw [strOfNums_data, toI_back]
  simp
theorem varI_bd : ∀ (n : Nat), ∀ x ∈ varI n, 0 ≤ x ∧ x < 256 := by
  intro n
  induction n using Nat.strongRecOn with
  | _ n ih =>
    intro x hx
    by_cases hn : n < 128
    · rw [varI_small hn] at hx; simp at hx; omega
    · rw [varI_big hn] at hx
      rcases List.mem_cons.1 hx with rfl | hx
      · omega
      · exact ih (n / 128) (by omega) x hx
theorem var_eq {n : Nat} {l : List UInt8} (h : strOfNums (varI n) = strOfNums (toI l)) : varI n = toI l := by
  have h1 : (varI n).map (fun n => UInt8.ofNat n.toNat) = l := by
    have : (strOfNums (varI n)).data.toList = (strOfNums (toI l)).data.toList := by rw [h]
    rw [strOfNums_data, strOfNums_data, toI_back] at this
    exact this
  rw [← h1, toI, List.map_map]
  conv => lhs; rw [← List.map_id (varI n)]
  refine List.map_congr_left fun x hx => ?_
  have := varI_bd n x hx
  simp only [id, Function.comp]
  have e : x.toNat < 256 := by omega
  rw [UInt8.toNat_ofNat_of_lt' (by simpa using e)]
  omega
theorem var_take (s : ByteArray) (k : Nat) (hk : 1 ≤ k) (hk' : k ≤ s.size) : strOfNums (varI (vv (s.data.toList.take k))) = s.extract 0 k ↔ canon (s.data.toList.take k) = true := by
  rw [← str_take]
  constructor
  · intro h
    refine canon_var _ (fun he => ?_) (var_eq h)
    have : (s.data.toList.take k).length = 0 := by rw [he]; rfl
    rw [List.length_take] at this
    have hl : s.data.toList.length = s.size := by simp
    omega
  · intro h; rw [var_canon _ h]
theorem drop_take (s : ByteArray) (k t : Nat) (h : t < k) (hk : k ≤ s.size) : (s.data.toList.take k).drop t = s[t] :: (s.data.toList.take k).drop (t + 1) := by
  have hl : s.data.toList.length = s.size := by simp
  rw [List.drop_eq_getElem_cons (by rw [List.length_take]; omega)]
  congr 1
  simp
  rfl
set_option maxHeartbeats 2000000 in
theorem spec_ReadVar (s : ByteArray) (w : World) (hs : s.size ≤ 1048576) :
    Calls Try.prog 47 #[.string s] w fun e w' => e = .returned (.tuple #[.int .i64 (rvV s.data.toList), .int .i64 (rvN s.data.toList)]) ∧ Below w.heap.size w w' := by
  have hll : s.data.toList.length = s.size := by simp
  obtain ⟨L, hL⟩ : ∃ L, L = s.data.toList := ⟨_, rfl⟩
  rw [← hL] at hll ⊢
  have HL := hide hL
  have HLL := hide hll
  clear hL hll
  go_enter Try.func47, Try.ntmps47
  go_wp2_with fail
  go_loopw [4] (fun i wr => ∃ k : Nat, 1 ≤ k ∧ k ≤ 8 ∧ i = .int .i64 (k : Int) ∧ Hid (∀ j, j < k → rvP L j = false) ∧ Below w.heap.size w wr)
    (fun i _ => 8 - (intOf i).toNat)
  case atStart => exact ⟨1, by omega, by omega, rfl, fun j hj => (show j = 0 by omega) ▸ rvP_zero L, Below.refl _ _⟩
  case round =>
    obtain ⟨k, hk1, hk8, rfl, hno, hb⟩ := hrel
    have hsz := hb.size
    by_cases hc : k ≤ 7 ∧ k ≤ s.size
    case neg =>
      have HN := hide (rvN_none (L := L) (fun j hj => by
        by_cases hjk : j < k
        · exact hno.out j hjk
        · rw [rvP, decide_eq_false (by rw [HLL.out]; omega), Bool.false_and]))
      have hcase : ¬ (k : Int) ≤ 7 ∨ ((k : Int) ≤ 7 ∧ ¬ (k : Int) ≤ (s.size : Int)) := by omega
      rcases hcase with h1 | ⟨h1, h2⟩
      all_goals
        go_wp2_with fail
        go_ret2
        exact ⟨by rw [rvV, HN.out]; rfl, hb⟩
    obtain ⟨h7, hks⟩ := hc
    have h7' : (k : Int) ≤ 7 := by omega
    have hks' : (k : Int) ≤ (s.size : Int) := by omega
    obtain ⟨l, hl⟩ : ∃ l, l = L.take k := ⟨_, rfl⟩
    have hlk : l.length = k := by rw [hl, List.length_take, HLL.out]; omega
    have HLK := hide hlk
    have HD := hide hl
    clear hlk hl
    go_wp2_with fail
    go_loopw [5, 6] (fun q i W => ∃ t : Nat, t ≤ k ∧ i = .int .i64 ((t : Int) - 1) ∧ (∃ z : Int, q = .int .i64 z ∧ 0 ≤ z ∧ Hid (z = (vv (l.drop t) : Nat))) ∧ W = wr)
      (fun _ i _ => (intOf i + 1).toNat)
    case atStart => exact ⟨k, Nat.le_refl _, rfl, ⟨0, rfl, by omega, by rw [List.drop_of_length_le (by rw [HLK.out]; exact Nat.le_refl _)]; rfl⟩, rfl⟩
    case round =>
      obtain ⟨t, ht, rfl, ⟨z, rfl, hz0, hz⟩, rfl⟩ := hrel
      by_cases ht0 : t = 0
      case neg =>
        obtain ⟨t', ht'⟩ : ∃ t', t = t' + 1 := ⟨t - 1, by omega⟩
        have hm : (t : Int) - 1 = (t' : Int) := by omega
        have hts : t' < s.size := by omega
        have hz1 : z ≤ 4398046511103 := by
          have h1 := vv_lt (l.drop t)
          have h2 : (128 : Nat) ^ (l.drop t).length ≤ 128 ^ 6 := Nat.pow_le_pow_right (by omega) (by rw [List.length_drop, HLK.out]; omega)
          have h3 : (128 : Nat) ^ 6 = 4398046511104 := by decide
          have := hz.out
          omega
        have hb8 := s[t'].toNat_lt
        have HV := hide (show (z * 128 + (s[t'].toNat : Int) % 128) = (vv (l.drop t') : Nat) from by
          rw [HD.out, HL.out, drop_take s k t' (by omega) hks, vv, ← ht', ← HL.out, ← HD.out, hz.out]; omega)
        have HT := hide ht'
        have h0t : (0 : Int) ≤ (t' : Int) := by omega
        clear ht0 ht'
        go_wp2_with fail
        go_roundw
        case rel => exact ⟨t', by have := HT.out; omega, by first | rfl | (rw [hm]), ⟨_, rfl, by omega, HV.out⟩, by first | rfl | trivial⟩
        case measure => simp [intOf]; omega
      subst ht0
      have hm : ¬ (0 : Int) ≤ ((0 : Nat) : Int) - 1 := by omega
      have hz7 : z ≤ 562949953421311 := by
        have := vv_lt7 l (by rw [HLK.out]; exact h7)
        have h1 := hz.out
        rw [List.drop_zero] at h1
        omega
      have hzv := hz.out
      rw [List.drop_zero] at hzv
      have HZ := hide hzv
      have HVT := hide (var_take s k hk1 hks)
      obtain ⟨x, hx⟩ : ∃ x, x = strOfNums (varI z.toNat) := ⟨_, rfl⟩
      have HX := hide hx
      have CV := hide (show ∀ d os, Calls Try.prog 76 #[.int .i64 z] (grow (redrawn wr d) os) fun e w'' => e = .returned (.string x) ∧ ∃ p : Regrown, w'' = grow (redrawn wr p.d) p.os from fun d os => Calls.regrown_of (hx ▸ spec_Var_yes z _ hz0 hz7))
      clear hx hz hzv
      have hk0 : (0 : Int) ≤ (k : Int) := by omega
      cases hcn : canon l with
      | true =>
        have hxe : x = s.extract 0 k := by
          rw [HX.out, HZ.out, HD.out, HL.out, Int.toNat_natCast]
          exact HVT.out.2 (by rw [← HL.out, ← HD.out]; exact hcn)
        have HR := hide (rvN_at (L := L) (k := k) (by omega) (by rw [rvP, decide_eq_true (by rw [HLL.out]; exact hks), ← HD.out, hcn]; rfl) hno.out)
        subst hxe
        clear hcn
        go_wp2_with fail
        refine wp_region_quiet_below (by kernel_rfl) (by kernel_rfl) ?_
        repeat (go_big_quiet_step (first | with_reducible exact CV.out _ _))
        refine wpQuiet_nil ?_
        intro _ hw'
        obtain ⟨⟨dq, osq⟩, hw''⟩ := hw'
        subst hw''
        have hq_w2 := below_regrown wr dq osq
        generalize grow (redrawn wr dq) osq = w2 at *
        go_wp2_with fail
        go_ret2
        exact ⟨by rw [rvV, HR.out, if_neg (by omega), ← HD.out, ← HZ.out]; rfl, hb.trans (hq_w2.mono hsz)⟩
      | false =>
        have hxe : ¬ x = s.extract 0 k := fun he => by
          rw [HX.out, HZ.out, HD.out, HL.out, Int.toNat_natCast] at he
          have := HVT.out.1 he
          rw [← HL.out, ← HD.out, hcn] at this
          cases this
        have HP := hide (show rvP L k = false from by rw [rvP, ← HD.out, hcn, Bool.and_false])
        have hx2 : (x.toList == (s.extract 0 k).toList) = false := by
          rw [beq_eq_false_iff_ne, Go.ByteArray.toList_eq, Go.ByteArray.toList_eq]
          exact fun he => hxe (ByteArray.ext (Array.ext' he))
        clear hcn
        go_wp2_with fail
        refine wp_region_quiet_below (by kernel_rfl) (by kernel_rfl) ?_
        repeat (go_big_quiet_step (first | with_reducible exact CV.out _ _))
        refine wpQuiet_nil ?_
        intro _ hw'
        obtain ⟨⟨dq, osq⟩, hw''⟩ := hw'
        subst hw''
        have hq_w2 := below_regrown wr dq osq
        generalize grow (redrawn wr dq) osq = w2 at *
        go_wp2_with fail
        go_roundw
        case rel => exact ⟨k + 1, by omega, by omega, by go_num, fun j hj => by
          by_cases hjk : j < k
          · exact hno.out j hjk
          · obtain rfl : j = k := by omega
            exact HP.out, hb.trans (hq_w2.mono hsz)⟩
        case measure => simp [intOf]; omega
theorem rv_hi {s : ByteArray} {L : List UInt8} (hL : L = s.data.toList) {i : Nat} (hi : ∀ j (hj : j < s.size), j < i → 128 ≤ s[j].toNat) : ∀ k, k ≤ i → rvP L k = false := by
  intro k hk
  have hll : L.length = s.size := by rw [hL]; simp
  rw [rvP]
  by_cases hks : k ≤ L.length
  · have : canon (L.take k) = false := by
      cases hc : canon (L.take k)
      · rfl
      · have := (canon_iff _).1 hc
        have hl : (L.take k).length = k := by rw [List.length_take]; omega
        by_cases hk0 : k = 0
        · subst hk0; simp at this
        · have hlt : k - 1 < s.size := by omega
          have h3 := (this.2.2 s[k - 1] (by rw [hl, List.getElem?_take, if_pos (by omega), hL, List.getElem?_eq_getElem (by simp; omega)]; simp; rfl)).1
          have := hi (k - 1) hlt (by omega)
          omega
    rw [this, Bool.and_false]
  · rw [decide_eq_false hks, Bool.false_and]
theorem rv_last {s : ByteArray} {L : List UInt8} (hL : L = s.data.toList) {i : Nat} (his : i < s.size) (hi : ∀ j (hj : j < s.size), j < i → 128 ≤ s[j].toNat) (hb : s[i].toNat < 128) (h0 : 0 < i → s[i].toNat ≠ 0) : rvP L (i + 1) = true := by
  have hll : L.length = s.size := by rw [hL]; simp
  rw [rvP, decide_eq_true (by omega), Bool.true_and, canon_iff]
  have hl : (L.take (i + 1)).length = i + 1 := by rw [List.length_take]; omega
  refine ⟨fun h => by rw [h] at hl; simp at hl, fun j b hj hjl => ?_, fun b hj => ?_⟩
  · rw [hl] at hjl
    rw [List.getElem?_take, if_pos (by omega), hL, List.getElem?_eq_getElem (by simp; omega)] at hj
    have := hi j (by omega) (by omega)
    simp at hj
    rw [← hj]
    exact this
  · rw [hl, Nat.add_sub_cancel, List.getElem?_take, if_pos (by omega), hL, List.getElem?_eq_getElem (by simp; omega)] at hj
    simp at hj
    rw [← hj]
    refine ⟨hb, fun h => h0 (by rw [hl] at h; omega)⟩
theorem rv_dead {s : ByteArray} {L : List UInt8} (hL : L = s.data.toList) {i : Nat} (his : i < s.size) (hi0 : 0 < i) (hi : ∀ j (hj : j < s.size), j < i → 128 ≤ s[j].toNat) (hb : s[i].toNat = 0) : ∀ k, rvP L k = false := by
  intro k
  by_cases hk : k ≤ i
  · exact rv_hi hL hi k hk
  have hll : L.length = s.size := by rw [hL]; simp
  rw [rvP]
  by_cases hks : k ≤ L.length
  · have : canon (L.take k) = false := by
      cases hc : canon (L.take k)
      · rfl
      · have := (canon_iff _).1 hc
        have hl : (L.take k).length = k := by rw [List.length_take]; omega
        have hg : (L.take k)[i]? = some s[i] := by rw [List.getElem?_take, if_pos (by omega), hL, List.getElem?_eq_getElem (by simp; omega)]; simp; rfl
        by_cases hki : k = i + 1
        · have h3 := (this.2.2 s[i] (by rw [hl, hki, Nat.add_sub_cancel]; rw [hki] at hg; exact hg)).2 (by omega)
          omega
        · have h3 := this.2.1 i s[i] hg (by omega)
          omega
    rw [this, Bool.and_false]
  · rw [decide_eq_false hks, Bool.false_and]
set_option maxHeartbeats 2000000 in
theorem impl_ReadVar (s : ByteArray) (w : World) (hs : s.size ≤ 1048576) :
    Calls Try.prog 48 #[.string s] w fun e w' => e = .returned (.tuple #[.int .i64 (rvV s.data.toList), .int .i64 (rvN s.data.toList)]) ∧ w = w' := by
  have hll : s.data.toList.length = s.size := by simp
  obtain ⟨L, hL⟩ : ∃ L, L = s.data.toList := ⟨_, rfl⟩
  rw [← hL] at hll ⊢
  have HL := hide hL
  have HLL := hide hll
  clear hL hll
  go_enter Try.func48, Try.ntmps48
  go_wp2_with fail
  go_loop [4, 5] (fun q i => ∃ k : Nat, k ≤ 7 ∧ k ≤ s.size ∧ i = .int .i64 (k : Int) ∧ Hid (∀ j (hj : j < s.size), j < k → 128 ≤ s[j].toNat) ∧ ∃ z : Int, q = .int .i64 z ∧ 0 ≤ z ∧ Hid (z = (vv (L.take k) : Nat)))
    (fun _ i => 7 - (intOf i).toNat)
  case atStart => exact ⟨0, by omega, by omega, rfl, fun j hj hj0 => absurd hj0 (by omega), 0, rfl, by omega, by simp [Hid, vv]⟩
  case round =>
    obtain ⟨k, hk7, hks, rfl, hhi, z, rfl, hz0, hz⟩ := hrel
    by_cases hc : k < s.size ∧ k < 7
    case neg =>
      have HN := hide (rvN_none (L := L) (fun j hj => by
        by_cases hjk : j ≤ k
        · exact rv_hi HL.out hhi.out j hjk
        · rw [rvP, decide_eq_false (by rw [HLL.out]; omega), Bool.false_and]))
      have hcase : ¬ (k : Int) < (s.size : Int) ∨ ((k : Int) < (s.size : Int) ∧ ¬ (k : Int) < 7) := by omega
      rcases hcase with h1 | ⟨h1, h2⟩
      all_goals
        go_wp2_with fail
        go_ret2
        exact ⟨by rw [rvV, HN.out]; rfl, rfl⟩
    obtain ⟨hlt, h7⟩ := hc
    have hz1 : z ≤ 4398046511103 := by
      have h1 := vv_lt (L.take k)
      have h2 : (128 : Nat) ^ (L.take k).length ≤ 128 ^ 6 := Nat.pow_le_pow_right (by omega) (by rw [List.length_take]; omega)
      have h3 : (128 : Nat) ^ 6 = 4398046511104 := by decide
      have := hz.out
      omega
    have hsn : vv (L.take (k + 1)) = vv (L.take k) + 128 ^ k * (s[k].toNat % 128) := by
      have e : L.take (k + 1) = L.take k ++ [s[k]] := by rw [HL.out]; exact take_snoc s k hlt
      rw [e, vv_snoc, List.length_take, Nat.min_eq_left (by rw [HLL.out]; omega)]
    have HSN := hide hsn
    obtain ⟨c, hcc⟩ : ∃ c : Int, (s[k].toNat : Int) = c := ⟨_, rfl⟩
    have hc0 : 0 ≤ c ∧ c < 256 := by have := s[k].toNat_lt; omega
    have HC := hide hcc
    have hw2 : ((s[k].toNat : Int)).tmod 128 = (s[k].toNat : Int) % 128 := IntWalk.rem_in _ _ (by omega)
    have hk0 : (0 : Int) ≤ (k : Int) := by omega
    have hk1 : (k : Int) < (s.size : Int) := by omega
    have hk2 : (k : Int) < 7 := by omega
    obtain ⟨v, hvv⟩ : ∃ v : Int, v = (vv (L.take (k + 1)) : Nat) := ⟨_, rfl⟩
    have hval : Go.RowKit.wrap64 (z + Go.RowKit.wrap64 (c % 128 * 2 ^ (7 * k))) = v := by
      have h1 := vv_lt7 (L.take (k + 1)) (by rw [List.length_take]; omega)
      have h2 : (c % 128 * 2 ^ (7 * k) : Int) = ((128 ^ k * (s[k].toNat % 128) : Nat) : Int) := by
        rw [← hcc, Int.pow_mul, Int.natCast_mul, Int.natCast_pow, Int.mul_comm]
        rfl
      rw [h2]
      have h3 := hz.out
      unfold Go.RowKit.wrap64
      omega
    have hv0 : 0 ≤ v := by omega
    have HV := hide hvv
    clear hsn hvv
    by_cases hc128 : c < 128
    · by_cases hkz : 0 < k
      · by_cases hcz : c = 0
        · have HN := hide (rvN_none (L := L) (fun j _ => rv_dead HL.out hlt hkz hhi.out (by omega) j))
          have hce : (c == 0) = true := by simp [hcz]
          clear hcz
          go_wp2_with fail
          go_ret2
          exact ⟨by rw [rvV, HN.out]; rfl, rfl⟩
        · have HN := hide (rvN_at (L := L) (k := k + 1) (by omega) (rv_last HL.out hlt hhi.out (by omega) (fun _ => by omega)) (fun j hj => rv_hi HL.out hhi.out j (by omega)))
          have hce : (c == 0) = false := by simp [hcz]
          go_wp2_with fail
          go_ret2
          exact ⟨by rw [rvV, HN.out, if_neg (by omega), ← HV.out]; rfl, rfl⟩
      · have HN := hide (rvN_at (L := L) (k := k + 1) (by omega) (rv_last HL.out hlt hhi.out (by omega) (fun h => absurd h hkz)) (fun j hj => rv_hi HL.out hhi.out j (by omega)))
        go_wp2_with fail
        go_ret2
        exact ⟨by rw [rvV, HN.out, if_neg (by omega), ← HV.out]; rfl, rfl⟩
    · have HB := hide (show 128 ≤ s[k].toNat by omega)
      go_wp2_with fail
      go_round
      case rel => exact ⟨k + 1, by omega, by omega, by go_num, fun j hj hjk => by
        by_cases hjk' : j < k
        · exact hhi.out j hj hjk'
        · obtain rfl : j = k := by omega
          exact HB.out, v, by rw [hval], hv0, HV.out⟩
      case measure => simp [intOf]; omega
end Go.Proofs.Ytjdaeebpifihiaa
