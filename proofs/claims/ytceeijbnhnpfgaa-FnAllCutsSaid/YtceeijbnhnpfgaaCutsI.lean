/-
  The contract of impl.AllCuts.
-/
import Derived.Test.YtceeijbnhnpfgaaPlainC
import Derived.Test.YtceeijbnhnpfgaaRowS
import Derived.Test.YtceeijbnhnpfgaaPush
import Derived.WalkKit
import Derived.Deep.DeepMust
namespace Go.Proofs.Ytceeijbnhnpfgaa
open Go.RowKit

set_option maxHeartbeats 2000000 in
theorem impl_AllCuts (ops st : Int) (w : World) :
    Calls Try.prog 26 #[.int .i64 ops, .int .i64 st] w fun e w' => ∃ A c, e = .returned (.slice A (cuts ops st).length c) ∧ OwRows w' w.heap.size w'.heap.size (.slice A (cuts ops st).length c) (cuts ops st).length ((cuts ops st).flatMap rowF) ∧ Below w.heap.size w w' := by
  by_cases hok : okCut ops st = true
  case neg =>
    have hc := okCut_no hok
    rw [cuts_no hok]
    clear hok
    rcases hc with h1 | ⟨h1, h2⟩ | ⟨h1, h2, h3⟩ | ⟨h1, h2, h3, h4⟩
    all_goals
      go_enter Try.func26, Try.ntmps26
      go_wp2_with fail
      go_ret
      exact ⟨none, 0, rfl, OL.nil _ _ _ _ _ _, Below.refl _ _⟩
  obtain ⟨N, K, rfl, rfl, hK1, hKN, hN8⟩ := okCut_spec hok
  have hcut := hide (cuts_yes N K hK1 hKN hN8)
  clear hok
  have hfacts := hide (fun i (hi : i < K) => cRows_ok hN8 hKN hi)
  have d1 : decide ((N : Int) < 1) = false := by simp; omega
  have d2 : decide ((8 : Int) < (N : Int)) = false := by simp; omega
  have d3 : decide ((K : Int) < 1) = false := by simp; omega
  have d4 : decide (N < K) = false := by simp; omega
  go_enter Try.func26, Try.ntmps26
  go_wp2_with fail
  go_loopw [5, 6] (fun v i wr => ∃ j : Nat, j < K ∧ i = .int .i64 ((j : Int) + 1) ∧ (∃ A c n, v = .slice A n c ∧ Hid (n = (cRows N K j).length) ∧ OwRows wr w.heap.size wr.heap.size (.slice A n c) n ((cRows N K j).flatMap rowF)) ∧ Below w.heap.size w wr)
    (fun _ i _ => K - (intOf i).toNat)
  case atStart =>
    refine ⟨0, by omega, rfl, ⟨_, _, 1, rfl, rfl, ?_⟩, (Below.refl _ _).alloc (Nat.le_refl _) _⟩
    have := OL.lit1 (e := 3) (T := 52) (w := w) (us := [.slice none 0 0]) (gs := [.s []]) (lo := w.heap.size) (hi := w.heap.size) (m := 1) (FOs.one (OI.nil _ _ _ _)) (Nat.le_refl _) (Nat.le_refl _) rfl
    simpa [cRows, rowF] using this
  case round =>
    rename World => W1
    obtain ⟨j, hj, rfl, ⟨A, c, n, rfl, hn, hown⟩, hb⟩ := hrel
    have hF := hfacts.out j hj
    have hsz := hb.size
    by_cases hlt : j + 1 < K
    case neg =>
      have hjK : j = K - 1 := by omega
      have HE := hide (show cuts N K = cRows N K j from by rw [hcut.out, hjK])
      have HO := hide hown
      clear hown hF
      go_wp2_with fail
      go_ret
      rw [HE.out, ← hn.out]
      exact ⟨_, _, rfl, HO.out, hb⟩
    have hF2 := hfacts.out (j + 1) hlt
    have d5 : decide ((j : Int) + 1 < (K : Int)) = true := by rw [decide_eq_true_eq]; omega
    obtain ⟨rows, hrows⟩ : ∃ rows, rows = cRows N K j := ⟨_, rfl⟩
    obtain ⟨lo, hlo⟩ : ∃ lo, lo = W1.heap.size := ⟨_, rfl⟩
    have HROWS := hide hrows
    have HLO := hide hlo
    have HNX := hide (show cRows N K (j + 1) = rows.flatMap (cExt ((N : Int) - (K : Int) + ((j + 1 : Nat) : Int))) from by rw [hrows]; rfl)
    rw [← hrows] at hown hn hF
    rw [← hlo] at hown hsz
    have HOUT := hide hown
    have HN := hide (show rows.length = n from hn.out.symm)
    have HLEN := hide (show rows.length ≤ 70 from hF.1)
    have hn70 : n ≤ 70 := by rw [hn.out]; exact hF.1
    have HALL := hide hF.2
    have HTOT := hide (show (rows.flatMap (cExt ((N : Int) - (K : Int) + ((j + 1 : Nat) : Int)))).length ≤ 70 from by rw [← HNX.out]; exact hF2.1)
    have HB := hide hb
    have HBE := hide (hlo ▸ (Below.refl W1.heap.size W1).alloc (Nat.le_refl _) (.cells #[] 52) : Below lo W1 (W1.alloc (.cells #[] 52)))
    have HEM := hide (OL.empty 3 52 1 W1)
    clear hrows hlo hown hF hF2 hn hb
    go_wp2_with fail
    go_loopw [7, 37] (fun v i wq => ∃ k : Nat, k ≤ n ∧ i = .int .i64 (k : Int) ∧ (∃ A' c' n', v = .slice A' n' c' ∧ Hid (n' = ((rows.take k).flatMap (cExt ((N : Int) - (K : Int) + ((j + 1 : Nat) : Int)))).length) ∧ OwRows wq lo wq.heap.size (.slice A' n' c') n' (((rows.take k).flatMap (cExt ((N : Int) - (K : Int) + ((j + 1 : Nat) : Int)))).flatMap rowF)) ∧ Below lo W1 wq)
      (fun _ i _ => n - (intOf i).toNat)
    case atStart =>
      refine ⟨0, Nat.zero_le _, rfl, ⟨_, _, 0, rfl, rfl, ?_⟩, HBE.out⟩
      have := HEM.out
      rw [← HLO.out] at this ⊢
      simpa [← HLO.out] using this
    case round =>
      rename World => wq
      obtain ⟨k, hk, rfl, ⟨A', c', n', rfl, hn', hown⟩, hbq⟩ := hrel
      have hsq : lo ≤ wq.heap.size := by have := hbq.size; rw [HLO.out]; exact this
      by_cases hlk : k < n
      case neg =>
        have hkn : k = n := by omega
        have HT := hide (show rows.take k = rows from List.take_of_length_le (by rw [HN.out]; omega))
        have HO := hide hown
        clear hown
        go_wp2_with fail
        go_roundw
        case rel => exact ⟨j + 1, hlt, by go_num, ⟨_, _, _, rfl, hide (by rw [HNX.out, hn'.out, HT.out]), by rw [HNX.out]; have := HO.out; rw [HT.out] at this; exact this.more hsz (Nat.le_refl _)⟩, HB.out.trans (hbq.mono hsz)⟩
        case measure => simp [intOf]; omega
      obtain ⟨b, off, r, A1, n1, c1, rfl, hbB, hr, e0, hR⟩ := HOUT.out.rl.rowAt hlk
      have hmem : r ∈ rows := List.mem_of_getElem? hr
      have hrl := (HALL.out r hmem).1
      have hn1 : n1 = j := by rw [← hR.1]; exact hrl
      have HRL := hide (show r.length ≤ 8 from by omega)
      have h1 : (0 : Int) ≤ (k : Int) := by omega
      have h2 : (k : Int) < (n : Int) := by omega
      have e1 : wq.cell? ⟨b, off + k, none⟩ = some (.slice A1 n1 c1) := (hbq.cell (p := ⟨b, off + k, none⟩) hbB).trans e0
      have hRq := hide (hR.below hbq)
      have HR0 := hide hR
      have HRR := hide hr
      obtain ⟨cf, hcf⟩ : ∃ cf, cFrom r = cf := ⟨_, rfl⟩
      have HL := hide (cExt_len ((N : Int) - (K : Int) + ((j + 1 : Nat) : Int)) r)
      have HG := hide (cExt_take ((N : Int) - (K : Int) + ((j + 1 : Nat) : Int)) r)
      have HFM := hide (flatMap_take_succ (cExt ((N : Int) - (K : Int) + ((j + 1 : Nat) : Int))) rows k r hr)
      have HFL := hide (flatMap_take_le (cExt ((N : Int) - (K : Int) + ((j + 1 : Nat) : Int))) rows (k + 1))
      rw [hcf] at HL HG
      obtain ⟨ex, hex⟩ : ∃ ex, ex = cExt ((N : Int) - (K : Int) + ((j + 1 : Nat) : Int)) r := ⟨_, rfl⟩
      obtain ⟨pre, hpre⟩ : ∃ pre, pre = (rows.take k).flatMap (cExt ((N : Int) - (K : Int) + ((j + 1 : Nat) : Int))) := ⟨_, rfl⟩
      have HL : Hid (ex.length = ((N : Int) - (K : Int) + ((j + 1 : Nat) : Int) + 1 - cf).toNat) := hex ▸ HL
      have HG : Hid (∀ t, t < ex.length → ex.take (t + 1) = ex.take t ++ [r ++ [cf + (t : Int)]]) := hex ▸ HG
      have HFM : Hid ((rows.take (k + 1)).flatMap (cExt ((N : Int) - (K : Int) + ((j + 1 : Nat) : Int))) = pre ++ ex) := by rw [hpre, hex]; exact HFM
      have HPL := hide (show pre.length + ex.length ≤ 70 from by have := HFL.out; rw [HFM.out, List.length_append] at this; have := HTOT.out; omega)
      rw [← hpre] at hn' hown
      have HO := hide hown
      have hcases : (j = 0 ∧ cf = 1) ∨ (∃ j', j = j' + 1 ∧ ∃ x, x = r.getD j' 0 ∧ 1 ≤ x ∧ x ≤ 8 ∧ cf = x + 1) := by
        cases j with
        | zero => left; refine ⟨rfl, ?_⟩; rw [← hcf, List.eq_nil_of_length_eq_zero hrl]; rfl
        | succ j' =>
          right
          refine ⟨j', rfl, _, rfl, ?_, ?_, ?_⟩
          · exact ((HALL.out r hmem).2 _ (by rw [List.getD, List.getElem?_eq_getElem (by omega)]; exact List.getElem_mem _)).1
          · exact ((HALL.out r hmem).2 _ (by rw [List.getD, List.getElem?_eq_getElem (by omega)]; exact List.getElem_mem _)).2
          · rw [← hcf]; exact cFrom_last r j' hrl
      have HCF := hide hcf
      have hbox := hide (show Below wq.heap.size wq (wq.alloc (.cells #[.slice A1 n1 c1] 52)) from (Below.refl _ _).alloc (Nat.le_refl _) _)
      clear hmem hrl hr hex hpre hown HFL HTOT e0 hcf
      have HNL := hide hn'.out
      clear hn'
      rcases hcases with ⟨hj0, rfl⟩ | ⟨j', hjj, x, hx, hx1, hx8, hcfx⟩
      · have hn10 : n1 = 0 := by omega
        have HJ := hide hj0
        clear hj0 hn1
        subst hn10
        have hsq' : lo ≤ wq.heap.size := hsq
        go_wp2_with fail
        go_loopw [7, 11] (fun v i wz => ∃ t : Nat, t ≤ ex.length ∧ i = .int .i64 (1 + (t : Int)) ∧ (∃ A' c' n', v = .slice A' n' c' ∧ Hid (n' = pre.length + t) ∧ OwRows wz lo wz.heap.size (.slice A' n' c') n' ((pre ++ ex.take t).flatMap rowF) ∧ (∀ g, (Value.slice A' n' c').ownBlock = some g → g ≠ wq.heap.size)) ∧ wz.cell? ⟨wq.heap.size, 0, none⟩ = some (.slice A1 0 c1) ∧ wq.heap.size < wz.heap.size ∧ Below lo W1 wz)
          (fun _ i _ => ((N : Int) - (K : Int) + ((j : Int) + 1) + 1 - intOf i).toNat)
        case atStart =>
          refine ⟨0, Nat.zero_le _, by go_num, ⟨_, _, _, rfl, hide (by rw [HNL.out, Nat.add_zero]), ?_, ?_⟩, by simp, by simp, hbq.trans (hbox.out.mono hsq')⟩
          · have := (HO.out.below hbox.out).hi_le
            simpa using this
          · intro g hg
            have := (HO.out.lt g hg).2.2
            omega
        case round =>
          rename World => wz
          obtain ⟨t, ht, rfl, ⟨A2, c2, n2, rfl, hn2, hown2, hne⟩, hbx, hbs, hbz⟩ := hrel
          have hsz2 : lo ≤ wz.heap.size := by have := hbz.size; rw [HLO.out]; exact this
          have HZ := hide hbz
          have HN2 := hide hn2.out
          have hl70 := HPL.out
          clear hn2
          by_cases hle : 1 + (t : Int) ≤ (N : Int) - (K : Int) + ((j : Int) + 1)
          · have htl : t < ex.length := by rw [HL.out]; omega
            have HG1 := hide (HG.out t htl)
            have hRz := hide (HR0.out.below HZ.out)
            have HO2 := hide hown2
            have HNE := hide hne
            clear hown2 hne
            go_wp2_with fail
            refine (impl_copyInts wz hRz.out hsz2 (by have := HRL.out; have := hRz.out.1; omega)).mono ?_
            rintro e w4 ⟨v4, rfl, hn4⟩
            obtain ⟨A4, n4, c4, rfl, hO4, hb4⟩ := newI hn4
            have hs4 := hb4.size
            have HB4 := hide hb4
            have hbx4 := cellB hb4 hbx
            have hlr : r.length < 1073741824 := by have := HRL.out; omega
            have hlz : wz.heap.size ≤ w4.heap.size := hs4
            have hln : n2 < 1073741824 := by rw [HN2.out]; omega
            have hO3 := HO2.out.below hb4
            have q1 : ∀ (q : Nat), (Value.slice A4 n4 c4).ownBlock = some q → wz.heap.size ≤ q := fun q hq => (hO4.1.lt q hq).1
            have Q1 := hide q1
            have H4 := hide hO4
            have H3 := hide hO3
            have HBX4 := hide hbx4
            have gate0 : True := trivial
            clear hn4 hb4 hO4 hO3 q1 hbx4
            go_wp2_with (first
              | (at_builtin; clear gate0; go_must (refine wpList_pushI (xs := r) w4 (1 + (t : Int)) rfl (.tmp 67) (.tmp 69) _ rfl 3 _ Try.underlying24 int_info rfl rfl H4.out rfl hlz hlr ?_); intro A5 n5 c5 w5 hO5 ho5; have hs5 := ho5.size; have G3 := hide (H3.out.only ho5 (fun q h1 h2 h3 => by have := Q1.out q h3; omega)); have HBX5 := hide (ho5.keepCell HBX4.out (fun h3 => by have := Q1.out _ h3; omega)); have HB5 := hide (HB4.out.trans (ho5.below hs4 (fun q h1 h3 => by have := Q1.out q h3; omega))); have H5 := hide hO5; have hl5 : wz.heap.size ≤ w5.heap.size := (by omega); clear ho5 hO5)
              | (at_builtin; go_must (refine wpList_pushL w5 [.slice A5 n5 c5] [.s (r ++ [1 + (t : Int)])] rfl (.tmp 64) (.tmp 72) _ rfl 3 52 1 24 _ Try.underlying49 row_info rfl Nat.one_pos (Nat.le_of_ble_eq_true rfl) rfl G3.out (FOs.one (FO.of_oi H5.out)) rfl rfl hsz2 hl5 hln ?_); intro A6 c6 w6 hO6 ho6 hob; have HO6 := hide hO6; have HO66 := hide ho6; have hs6 := ho6.size; have HBX6 := hide (ho6.keepCell HBX5.out (fun h3 => HNE.out _ h3 rfl)); have HOB := hide hob; clear ho6 hO6 hob))
            go_roundw
            case rel =>
              refine ⟨t + 1, by omega, by go_num, ⟨_, _, _, rfl, hide (by rw [HN2.out]; omega), ?_, ?_⟩, HBX6.out, by omega, ?_⟩
              · have := HO6.out
                rw [HG1.out, ← List.append_assoc, List.flatMap_append]
                simpa [rowF] using this
              · intro g hg
                rcases HOB.out g hg with h3 | h3
                · exact HNE.out g h3
                · omega
              · refine (HZ.out.trans (HB5.out.mono hsz2)).trans ?_
                exact (HO66.out.below (by omega) (fun q h1 h3 => by have := (HO2.out.lt q h3).1; omega))
            case measure => simp [intOf]; omega
          · have htl : t = ex.length := by have := HL.out; omega
            have HT := hide (show ex.take t = ex from List.take_of_length_le (by omega))
            have HO2 := hide hown2
            clear hown2 hne
            go_wp2_with fail
            go_roundw
            case rel =>
              exact ⟨k + 1, by omega, by go_num, ⟨_, _, _, rfl, hide (by rw [HFM.out, List.length_append, HN2.out, htl]), by rw [HFM.out]; have := HO2.out; rw [HT.out] at this; exact this⟩, HZ.out⟩
            case measure => simp [intOf]; omega
      · obtain ⟨b1, o1, hA1, hb1, hc1⟩ := hRq.out.at_ (show j' < n1 by omega)
        subst hA1
        rw [← hx] at hc1
        have hc1a := fun o => cellB ((Below.refl wq.heap.size wq).alloc (Nat.le_refl _) o) hc1
        have hm1 : (n1 : Int) - 1 = (j' : Int) := by omega
        have h3 : (0 : Int) ≤ (j' : Int) := by omega
        have h4 : (j' : Int) < (n1 : Int) := by omega
        have h6 : (j' : Int) ≤ 8 := by omega
        have h5 : decide (0 < n1) = true := by rw [decide_eq_true_eq]; omega
        have hsq' : lo ≤ wq.heap.size := hsq
        have HJ := hide hjj
        subst hcfx
        have HN1 := hide hn1
        clear hjj hx hn1
        go_wp2_with fail
        go_loopw [7, 11] (fun v i wz => ∃ t : Nat, t ≤ ex.length ∧ i = .int .i64 ((x + 1) + (t : Int)) ∧ (∃ A' c' n', v = .slice A' n' c' ∧ Hid (n' = pre.length + t) ∧ OwRows wz lo wz.heap.size (.slice A' n' c') n' ((pre ++ ex.take t).flatMap rowF) ∧ (∀ g, (Value.slice A' n' c').ownBlock = some g → g ≠ wq.heap.size)) ∧ wz.cell? ⟨wq.heap.size, 0, none⟩ = some (.slice (some ⟨b1, o1, none⟩) n1 c1) ∧ wq.heap.size < wz.heap.size ∧ Below lo W1 wz)
          (fun _ i _ => ((N : Int) - (K : Int) + ((j : Int) + 1) + 1 - intOf i).toNat)
        case atStart =>
          refine ⟨0, Nat.zero_le _, by go_num, ⟨_, _, _, rfl, hide (by rw [HNL.out, Nat.add_zero]), ?_, ?_⟩, by simp, by simp, hbq.trans (hbox.out.mono hsq')⟩
          · have := (HO.out.below hbox.out).hi_le
            simpa using this
          · intro g hg
            have := (HO.out.lt g hg).2.2
            omega
        case round =>
          rename World => wz
          obtain ⟨t, ht, rfl, ⟨A2, c2, n2, rfl, hn2, hown2, hne⟩, hbx, hbs, hbz⟩ := hrel
          have hsz2 : lo ≤ wz.heap.size := by have := hbz.size; rw [HLO.out]; exact this
          have HZ := hide hbz
          have HN2 := hide hn2.out
          have hl70 := HPL.out
          clear hn2
          by_cases hle : (x + 1) + (t : Int) ≤ (N : Int) - (K : Int) + ((j : Int) + 1)
          · have htl : t < ex.length := by rw [HL.out]; omega
            have HG1 := hide (HG.out t htl)
            have hRz := hide (HR0.out.below HZ.out)
            have HO2 := hide hown2
            have HNE := hide hne
            clear hown2 hne
            go_wp2_with fail
            refine (impl_copyInts wz hRz.out hsz2 (by have := HRL.out; have := hRz.out.1; omega)).mono ?_
            rintro e w4 ⟨v4, rfl, hn4⟩
            obtain ⟨A4, n4, c4, rfl, hO4, hb4⟩ := newI hn4
            have hs4 := hb4.size
            have HB4 := hide hb4
            have hbx4 := cellB hb4 hbx
            have hlr : r.length < 1073741824 := by have := HRL.out; omega
            have hlz : wz.heap.size ≤ w4.heap.size := hs4
            have hln : n2 < 1073741824 := by rw [HN2.out]; omega
            have hO3 := HO2.out.below hb4
            have q1 : ∀ (q : Nat), (Value.slice A4 n4 c4).ownBlock = some q → wz.heap.size ≤ q := fun q hq => (hO4.1.lt q hq).1
            have Q1 := hide q1
            have H4 := hide hO4
            have H3 := hide hO3
            have HBX4 := hide hbx4
            have gate0 : True := trivial
            clear hn4 hb4 hO4 hO3 q1 hbx4
            go_wp2_with (first
              | (at_builtin; clear gate0; go_must (refine wpList_pushI (xs := r) w4 ((x + 1) + (t : Int)) rfl (.tmp 67) (.tmp 69) _ rfl 3 _ Try.underlying24 int_info rfl rfl H4.out rfl hlz hlr ?_); intro A5 n5 c5 w5 hO5 ho5; have hs5 := ho5.size; have G3 := hide (H3.out.only ho5 (fun q h1 h2 h3 => by have := Q1.out q h3; omega)); have HBX5 := hide (ho5.keepCell HBX4.out (fun h3 => by have := Q1.out _ h3; omega)); have HB5 := hide (HB4.out.trans (ho5.below hs4 (fun q h1 h3 => by have := Q1.out q h3; omega))); have H5 := hide hO5; have hl5 : wz.heap.size ≤ w5.heap.size := (by omega); clear ho5 hO5)
              | (at_builtin; go_must (refine wpList_pushL w5 [.slice A5 n5 c5] [.s (r ++ [(x + 1) + (t : Int)])] rfl (.tmp 64) (.tmp 72) _ rfl 3 52 1 24 _ Try.underlying49 row_info rfl Nat.one_pos (Nat.le_of_ble_eq_true rfl) rfl G3.out (FOs.one (FO.of_oi H5.out)) rfl rfl hsz2 hl5 hln ?_); intro A6 c6 w6 hO6 ho6 hob; have HO6 := hide hO6; have HO66 := hide ho6; have hs6 := ho6.size; have HBX6 := hide (ho6.keepCell HBX5.out (fun h3 => HNE.out _ h3 rfl)); have HOB := hide hob; clear ho6 hO6 hob))
            go_roundw
            case rel =>
              refine ⟨t + 1, by omega, by go_num, ⟨_, _, _, rfl, hide (by rw [HN2.out]; omega), ?_, ?_⟩, HBX6.out, by omega, ?_⟩
              · have := HO6.out
                rw [HG1.out, ← List.append_assoc, List.flatMap_append]
                simpa [rowF] using this
              · intro g hg
                rcases HOB.out g hg with h3 | h3
                · exact HNE.out g h3
                · omega
              · refine (HZ.out.trans (HB5.out.mono hsz2)).trans ?_
                exact (HO66.out.below (by omega) (fun q h1 h3 => by have := (HO2.out.lt q h3).1; omega))
            case measure => simp [intOf]; omega
          · have htl : t = ex.length := by have := HL.out; omega
            have HT := hide (show ex.take t = ex from List.take_of_length_le (by omega))
            have HO2 := hide hown2
            clear hown2 hne
            go_wp2_with fail
            go_roundw
            case rel =>
              exact ⟨k + 1, by omega, by go_num, ⟨_, _, _, rfl, hide (by rw [HFM.out, List.length_append, HN2.out, htl]), by rw [HFM.out]; have := HO2.out; rw [HT.out] at this; exact this⟩, HZ.out⟩
            case measure => simp [intOf]; omega
end Go.Proofs.Ytceeijbnhnpfgaa
