/-
  spec.ReadDec
-/
import Derived.Test.YtgfieeonlhcnhaaDoorDecS
import Derived.Test.YtgfieeonlhcnhaaDoorPlainE
import Derived.Test.YtgfieeonlhcnhaaDoorPlainS
import Derived.WalkKit
namespace Go.Proofs.YtgfieeonlhcnhaaDoor
open Go.RowKit
set_option maxRecDepth 100000
theorem dfold_next (s : ByteArray) (i : Nat) (h : i < s.size) : dfold (s.data.toList.take (i + 1)) = dstep (dfold (s.data.toList.take i)) s[i] := by
  rw [take_snoc s i h, dfold_snoc]
set_option maxHeartbeats 2000000 in
theorem spec_ReadDec (s : ByteArray) (hs : s.size ≤ 1048576) (w : World) :
    Calls Tryd.prog 17 #[.string s] w fun e w' => e = .returned (rdecV s.data.toList) ∧ Below w.heap.size w w' := by
  have hll : s.data.toList.length = s.size := by simp
  obtain ⟨L, hL⟩ : ∃ L, L = s.data.toList := ⟨_, rfl⟩
  rw [← hL] at hll ⊢
  have HL := hide hL
  have HLL := hide hll
  clear hL hll
  go_enter Tryd.func17, Tryd.ntmps17
  go_wp2_with fail
  go_loop [4, 5, 6] (fun n k i => ∃ (j a b : Nat), n = .int .i64 (a : Int) ∧ k = .int .i64 (b : Int) ∧ i = .int .i64 (j : Int) ∧ j ≤ 11 ∧ j ≤ s.size ∧ Hid (dfold (L.take j) = (a, b)))
    (fun _ _ i => 11 - (intOf i).toNat)
  case atStart => exact ⟨0, 0, 0, rfl, rfl, rfl, by omega, by omega, rfl⟩
  case round =>
    obtain ⟨j, a, b, rfl, rfl, rfl, hj11, hjs, HF⟩ := hrel
    have hab : a < 100000000000 ∧ b ≤ 11 := by
      have h1 := dfold_bound (L.take j)
      rw [HF.out, List.length_take] at h1
      have h2 := dfold_lt (L.take j) 11 (by rw [HF.out]; show b ≤ 11; have := h1.2; simp only [] at this; omega)
      rw [HF.out] at h2
      have h3 := h1.2
      simp only [] at h2 h3
      refine ⟨by omega, by omega⟩
    obtain ⟨ha, hb11⟩ := hab
    by_cases hc : j < 11 ∧ j < s.size
    · obtain ⟨hj, hjl⟩ := hc
      have hj' : (j : Int) < 11 := by omega
      have hjl' : (j : Int) < (s.size : Int) := by omega
      have hb8 := s[j].toNat_lt
      have HS := hide (show dfold (L.take (j + 1)) = dstep (a, b) s[j] from by rw [HL.out, dfold_next s j hjl, ← HL.out, HF.out])
      by_cases h48 : (48 : Int) ≤ (s[j].toNat : Int)
      · by_cases h57 : (s[j].toNat : Int) ≤ 57
        · have HD := hide (dstep_yes (a, b) s[j] (by omega) (by omega))
          go_wp2_with fail
          go_round
          case rel => exact ⟨j + 1, a * 10 + (s[j].toNat - 48), b + 1, by go_num, by go_num, by go_num, by omega, by omega, hide (HS.out.trans HD.out)⟩
          case measure => simp [intOf]; omega
        · have HD := hide (dstep_no (a, b) s[j] (by omega))
          have h57' : (57 : Int) < (s[j].toNat : Int) := by omega
          go_wp2_with fail
          go_round
          case rel => exact ⟨j + 1, a, b, rfl, rfl, by go_num, by omega, by omega, hide (HS.out.trans HD.out)⟩
          case measure => simp [intOf]; omega
      · have HD := hide (dstep_no (a, b) s[j] (by omega))
        have h48' : (s[j].toNat : Int) < 48 := by omega
        go_wp2_with fail
        go_round
        case rel => exact ⟨j + 1, a, b, rfl, rfl, by go_num, by omega, by omega, hide (HS.out.trans HD.out)⟩
        case measure => simp [intOf]; omega
    · have ht : L.take 11 = L.take j := by
        by_cases h11 : j = 11
        · rw [h11]
        · have : j = s.size := by omega
          rw [List.take_of_length_le (by rw [HLL.out]; omega), List.take_of_length_le (by rw [HLL.out]; omega)]
      have HD := hide (show dfold (L.take 11) = (a, b) from by rw [ht, HF.out])
      clear ht HF
      obtain ⟨N, hN⟩ : ∃ N, rsgn L = N := ⟨_, rfl⟩
      have HN := hide hN
      have hbd : -100000000000 < N ∧ N < 100000000000 := by
        rw [← hN, rsgn, HD.out]
        split <;> simp only [] <;> omega
      clear hN
      obtain ⟨hbd0, hbd1⟩ := hbd
      have hend : ¬ (j : Int) < (s.size : Int) ∨ ((j : Int) < (s.size : Int) ∧ ¬ (j : Int) < 11) := by omega
      obtain ⟨x, hx⟩ : ∃ x : ByteArray, x = ⟨(Lib.itoa N).toArray⟩ := ⟨_, rfl⟩
      have HX := hide hx
      clear hx
      have F1 := hide (fun h : 9 < b => rdecV_none (rdec_far (l := L) (Or.inl (by rw [HD.out]; exact h))))
      have F2 := hide (fun h : 10 < s.size => rdecV_none (rdec_far (l := L) (Or.inr (Or.inl (by rw [HLL.out]; exact h)))))
      have F3 := hide (fun (hb : b ≤ 9) (h : x = s) => rdecV_some (n := N) (by
        have := rdec_yes (l := L) (by rw [HD.out]; exact hb) (by rw [HN.out, HL.out, ← h, HX.out])
        rw [HN.out] at this
        exact this))
      have F4 := hide (fun (h : ¬ x = s) => rdecV_none (rdec_far (l := L) (Or.inr (Or.inr (by
        rw [HN.out]
        intro e
        apply h
        rw [HX.out, e, HL.out])))))
      have hhead : (s.size = 0 ∧ N = (a : Int)) ∨ (∃ h : 0 < s.size, s[0] = 45 ∧ N = -(a : Int)) ∨ (∃ h : 0 < s.size, s[0].toNat ≠ 45 ∧ N = (a : Int)) := by
        have hN := HN.out
        rw [rsgn, HD.out] at hN
        simp only [] at hN
        by_cases h0 : s.size = 0
        · left
          refine ⟨h0, ?_⟩
          have : L = [] := List.length_eq_zero_iff.1 (by rw [HLL.out, h0])
          rw [this] at hN
          exact hN.symm
        · right
          have h0' : 0 < s.size := by omega
          have hh : L.head? = some s[0] := by
            rw [HL.out, List.head?_eq_getElem?, List.getElem?_eq_getElem (by simpa using h0')]
            rfl
          rw [hh] at hN
          by_cases h45 : s[0] = 45
          · left
            rw [if_pos (by rw [h45])] at hN
            exact ⟨h0', h45, hN.symm⟩
          · right
            rw [if_neg (by simpa using h45)] at hN
            exact ⟨h0', fun e => h45 (UInt8.toNat_inj.1 e), hN.symm⟩
      clear HD HN HL HLL
      rcases hend with h1 | ⟨h1, h2⟩ <;> rcases hhead with ⟨hz, hv⟩ | ⟨hz, hc, hv⟩ | ⟨hz, hc, hv⟩
      all_goals try (exfalso; omega)
      all_goals
        first
          | (have HC : ∀ w, Calls Tryd.prog 15 #[.int .i64 (a : Int)] w fun e w' => e = .returned (.string x) ∧ Below w.heap.size w w' := by
              have hv' : N = (a : Int) := by with_reducible exact hv
              intro w
              have h := spec_Dec N (by omega) (by omega) w
              rw [← HX.out, hv'] at h
              exact h)
          | (have HC : ∀ w, Calls Tryd.prog 15 #[.int .i64 (-(a : Int))] w fun e w' => e = .returned (.string x) ∧ Below w.heap.size w w' := by
              intro w
              have h := spec_Dec N (by omega) (by omega) w
              rw [← HX.out, hv] at h
              exact h)
        have HV := hide hv
        have HC := hide HC
        clear hv
        first | (have hz' : (s.size : Int) = 0 := by omega) | (have hz' : (0 : Int) < (s.size : Int) := by omega)
        by_cases h9 : (9 : Int) < (b : Int)
        · have h9' : (b : Int) ≤ 11 := by omega
          go_wp2_with fail
          go_ret2
          exact ⟨by rw [F1.out (by omega)]; rfl, Below.refl _ _⟩
        by_cases h10 : (10 : Int) < (s.size : Int)
        · first
            | (exfalso; omega)
            | (go_wp2_with fail
               go_ret2
               exact ⟨by rw [F2.out (by omega)]; rfl, Below.refl _ _⟩)
        first
          | (exfalso; omega)
          | (go_wp2_with fail
             refine (HC.out _).mono ?_
             rintro e w2 ⟨rfl, hb2⟩
             by_cases he : x = s
             · have F := hide (F3.out (by omega) he)
               clear F1 F2 F3 F4 HX
               subst he
               go_wp2_with fail
               go_ret2
               exact ⟨by rw [F.out, HV.out]; rfl, hb2⟩
             · have F := hide (F4.out he)
               have hne : (x.toList == s.toList) = false := by
                 rw [beq_eq_false_iff_ne]
                 intro h
                 exact he (ByteArray.ext (by simpa [Go.ByteArray.toList_eq] using h))
               go_wp2_with fail
               go_ret2
               exact ⟨by rw [F.out]; rfl, hb2⟩)
end Go.Proofs.YtgfieeonlhcnhaaDoor
