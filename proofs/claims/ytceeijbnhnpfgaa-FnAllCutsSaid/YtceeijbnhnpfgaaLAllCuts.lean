/-
  PROVED HERE: the law 'laws.FnAllCuts' returns true and leaves its arguments as they were, for every input, without a condition.
-/
import Derived.Test.YtceeijbnhnpfgaaRows
import Derived.Test.YtceeijbnhnpfgaaFrame
import Derived.Test.YtceeijbnhnpfgaaOpenB
import Derived.Test.YtceeijbnhnpfgaaCutsI
import Derived.Test.YtceeijbnhnpfgaaDraw2
import Derived.WalkKit
import Derived.Deep.RegionHeld3
import Derived.ProofKit
import Derived.OpenShut
namespace Go.Proofs.Ytceeijbnhnpfgaa.fnAllCuts
open Go.ChangeShapes Go.WideShapes Go.ChangeAt Go.RowKit
open Go.ChangeMaps (open_string)
set_option linter.unusedVariables false
theorem cells_u8 : Try.prog.cellsOf 5 = 1 := by kernel_rfl
set_option maxHeartbeats 4000000 in
set_option maxRecDepth 100000 in
theorem walk (w : World) {A0 : Option Addr} {n0 c0 : Nat} (hC0 : (n0 : Int) ≤ 1048576 → BA w w.heap.size A0 n0 c0) : Calls Try.prog 5 #[.slice A0 n0 c0] w fun e w' => e = .returned (.bool true) ∧ Below w.heap.size w w' := by
  by_cases hL : (1048576 : Int) < (n0 : Int)
  · go_enter Try.func5, Try.ntmps5
    go_wp2_with fail
    refine (laws_big_yes _ _ _ w hL).mono ?_
    rintro e w' ⟨rfl, rfl⟩
    go_wp2_with fail
    go_ret
    exact ⟨rfl, Below.refl _ _⟩
  have hb0 := hide (hC0 (by omega))
  have HL := hide (show (n0 : Int) ≤ 1048576 by omega)
  clear hC0 hL
  go_enter Try.func5, Try.ntmps5
  go_wp2_with fail
  refine (laws_big_no _ _ _ w HL.out).mono ?_
  rintro e w' ⟨rfl, rfl⟩
  go_wp2_with fail
  refine (spec_DrawAllCuts w hb0.out (Nat.le_refl _)).mono ?_
  rintro e w1 ⟨ops, st, rfl, hx0, hx1, hy0, hy1, hb1⟩
  have HB1 := hide hb1
  have hs1 := hb1.size
  clear hb1 hb0
  go_wp2_with fail
  refine (impl_AllCuts ops st w1).mono ?_
  rintro e w2 ⟨A, c, rfl, hO, hb2⟩
  have HB2 := hide (HB1.out.trans (hb2.mono hs1))
  have HL := hide hO.rl
  have hsm := cuts_small ops st
  clear hO hb2 HB1
  by_cases hok : okCut ops st = true
  case neg =>
    have hc := okCut_no hok
    rw [cuts_no hok]
    clear hok HL hsm
    rcases hc with h1 | ⟨h1, h2⟩ | ⟨h1, h2, h3⟩ | ⟨h1, h2, h3, h4⟩
    all_goals
      go_wp2_with fail
      go_ret
      exact ⟨rfl, HB2.out⟩
  obtain ⟨N, K, rfl, rfl, hK1, hKN, hN8⟩ := okCut_spec hok
  obtain ⟨m, rfl⟩ : ∃ m, K = m + 1 := ⟨K - 1, by omega⟩
  obtain ⟨all, hall⟩ : ∃ all, cuts (N : Int) ((m + 1 : Nat) : Int) = all := ⟨_, rfl⟩
  have hca : all = cAll N (m + 1) := by rw [← hall, cuts_yes N (m + 1) hK1 hKN hN8]; rfl
  rw [hall] at HL hsm ⊢
  obtain ⟨n, hn⟩ : ∃ n, all.length = n := ⟨_, rfl⟩
  rw [hn] at HL hsm ⊢
  have hn70 : n ≤ 70 := hsm.1
  have HW := hide (show wantF N m = (n : Int) from by have := want_all hN8 hK1 hKN; rw [Nat.add_sub_cancel, ← hca, hn] at this; exact this)
  have HWB := hide (fun i (hi : i < m + 1) => want_bd hN8 hK1 hKN hi)
  have HIN := hide (fun t j (ht : t < n) (hj : j < m) => by have := cut_in hN8 hK1 hKN (t := t) (j := j) (by rw [← hca, hn]; exact ht) hj; rwa [← hca] at this : ∀ t j, t < n → j < m → 1 ≤ (all.getD t []).getD j 0 ∧ (all.getD t []).getD j 0 < (N : Int) ∧ (0 < j → (all.getD t []).getD (j - 1) 0 < (all.getD t []).getD j 0))
  have HLESS := hide (fun t (ht : t + 1 < n) => by have := cut_less hN8 hK1 hKN (t := t) (by rw [← hca, hn]; exact ht); rwa [← hca] at this : ∀ t, t + 1 < n → diffAt (all.getD t []) (all.getD (t + 1) []) < m ∧ (all.getD t []).getD (diffAt (all.getD t []) (all.getD (t + 1) [])) 0 < (all.getD (t + 1) []).getD (diffAt (all.getD t []) (all.getD (t + 1) [])) 0)
  have HROW := hide (fun t (ht : t < n) => (cAll_row hN8 hK1 hKN (t := t) (by rw [← hca, hn]; exact ht)).1 : ∀ t, t < n → ((cAll N (m + 1)).getD t []).length = m)
  have hrow : ∀ t, t < n → (all.getD t []).length = m := fun t ht => by have := HROW.out t ht; rwa [← hca] at this
  have HR := hide hrow
  have d1 : decide ((N : Int) < 1) = false := by simp; omega
  have d2 : decide ((8 : Int) < (N : Int)) = false := by simp; omega
  have d3 : decide ((m : Int) + 1 < 1) = false := by simp; omega
  have d4 : decide ((N : Int) < (m : Int) + 1) = false := by simp; omega
  have hm8 : m ≤ 8 := by omega
  have HN := hide hn
  clear hok hx0 hx1 hy0 hy1 hall hca hn hsm HROW hrow hK1 hKN
  go_wp2_with fail
  go_loop [6, 7] (fun q i => ∃ j : Nat, j ≤ m ∧ i = .int .i64 ((j : Int) + 1) ∧ ∃ z : Int, q = .int .i64 z ∧ Hid (z = wantF N j)) (fun _ i => m + 1 - (intOf i).toNat)
  case atStart => exact ⟨0, Nat.zero_le _, rfl, 1, rfl, rfl⟩
  case round =>
    obtain ⟨j, hj, rfl, z, rfl, hz⟩ := hrel
    by_cases hlt : j < m
    · have hzb := HWB.out j (by omega)
      have hzn := HWB.out (j + 1) (by omega)
      rw [← hz.out] at hzb
      obtain ⟨y, hy⟩ : ∃ y, z * ((N : Int) - ((j : Int) + 1)) = y := ⟨_, rfl⟩
      have hyb : -1000 ≤ y ∧ y ≤ 1000 := by
        rw [← hy]
        obtain ⟨f, hf⟩ : ∃ f, (N : Int) - ((j : Int) + 1) = f := ⟨_, rfl⟩
        have h1 : -8 ≤ f ∧ f ≤ 8 := by omega
        rw [hf]
        have h2 := Int.mul_nonneg hzb.1 (show 0 ≤ 8 - f by omega)
        have h3 := Int.mul_nonneg hzb.1 (show 0 ≤ 8 + f by omega)
        rw [Int.mul_sub] at h2
        rw [Int.mul_add] at h3
        omega
      obtain ⟨x, hx⟩ : ∃ x, y.tdiv ((j : Int) + 1) = x := ⟨_, rfl⟩
      have hxw : x = wantF N (j + 1) := by
        rw [← hx, ← hy, hz.out, wantF]; norm_cast
      have HX := hide hxw
      rw [← hxw] at hzn
      have h0 : ¬ ((j : Int) + 1 = 0) := by omega
      clear hxw
      go_wp2_with fail
      go_round
      case rel => exact ⟨j + 1, by omega, by go_num, x, rfl, HX.out⟩
      case measure => simp [intOf]; omega
    have hjm : j = m := by omega
    have hzn : z = (n : Int) := by rw [hz.out, hjm, HW.out]
    subst hzn
    have HJ := hide hjm
    have hmj : m ≤ j := by omega
    clear hjm hlt
    go_wp2_with fail
    go_loopw [8] (fun i wr => ∃ t : Nat, t ≤ n ∧ i = .int .i64 (t : Int) ∧ ∃ mm, wr = w2.drewN mm) (fun i _ => n - (intOf i).toNat)
    case atStart => exact ⟨0, Nat.zero_le _, rfl, 0, rfl⟩
    case round =>
      obtain ⟨t, ht, rfl, mm, rfl⟩ := hrel
      by_cases htn : t < n
      case neg =>
        have htn' : n ≤ t := by omega
        go_wp2_with fail
        go_ret
        exact ⟨rfl, below_drewN HB2.out _⟩
      obtain ⟨b, off, r, A1, n1, c1, rfl, hbB, hr, e0, hR⟩ := HL.out.rowAt htn
      have hrg : all.getD t [] = r := by rw [List.getD, hr]; rfl
      have hn1 : n1 = m := by rw [← hR.1, ← hrg]; exact HR.out t htn
      subst hn1
      have h1 : (0 : Int) ≤ (t : Int) := by omega
      have h2 : (t : Int) < (n : Int) := by omega
      have e0' : (w2.drewN mm).cell? ⟨b, off + t, none⟩ = some (.slice A1 n1 c1) := e0
      have RR := hide hR
      have RG := hide hrg
      clear hr hR hrg
      go_wp2_with fail
      go_loopw [10] (fun i wr => ∃ j : Nat, j ≤ n1 ∧ i = .int .i64 (j : Int) ∧ ∃ mm, wr = w2.drewN mm) (fun i _ => n1 - (intOf i).toNat)
      case atStart => exact ⟨0, Nat.zero_le _, rfl, mm, rfl⟩
      case round =>
        obtain ⟨j, hj, rfl, mj, rfl⟩ := hrel
        by_cases hjm : j < n1
        · obtain ⟨b1, o1, rfl, hb1, hc1⟩ := RR.out.at_ hjm
          have hin := HIN.out t j htn hjm
          rw [RG.out] at hin
          obtain ⟨x, hx⟩ : ∃ x, r.getD j 0 = x := ⟨_, rfl⟩
          rw [hx] at hc1 hin
          have h3 : (0 : Int) ≤ (j : Int) := by omega
          have h4 : (j : Int) < (n1 : Int) := by omega
          have g1 : decide (x < 1) = false := by simp; omega
          have g2 : decide ((N : Int) ≤ x) = false := by simp; omega
          clear hx
          have hcase : j = 0 ∨ ∃ j', j = j' + 1 := by cases j with | zero => exact .inl rfl | succ j' => exact .inr ⟨j', rfl⟩
          rcases hcase with hj0 | ⟨j', hj'⟩
          · have g3 : decide (0 < j) = false := by simp [hj0]
            clear hj0 hin
            go_wp2_with fail
            go_quiet (fail)
            go_wp2_with fail
            go_roundw
            case rel => exact ⟨j + 1, by omega, by go_num, _, by first | rfl | exact World.drewN_drewN ..⟩
            case measure => simp [intOf]; omega
          · have g3 : decide (0 < j) = true := by simp [hj']
            have hlt := hin.2.2 (by omega)
            rw [show j - 1 = j' from by omega] at hlt
            obtain ⟨b2, o2, hA2, hb2, hc2⟩ := RR.out.at_ (show j' < n1 by omega)
            obtain ⟨rfl, rfl⟩ : b1 = b2 ∧ o1 = o2 := by simpa using hA2
            obtain ⟨y, hy⟩ : ∃ y, r.getD j' 0 = y := ⟨_, rfl⟩
            rw [hy] at hc2 hlt
            have g4 : decide (x ≤ y) = false := by simp; omega
            have hm1 : (j : Int) - 1 = (j' : Int) := by omega
            have h5 : (0 : Int) ≤ (j' : Int) := by omega
            have h6 : (j' : Int) < (n1 : Int) := by omega
            clear hy hin hA2 hj'
            go_wp2_with fail
            go_quiet (fail)
            go_wp2_with fail
            go_roundw
            case rel => exact ⟨j + 1, by omega, by go_num, _, by first | rfl | exact World.drewN_drewN ..⟩
            case measure => simp [intOf]; omega
        have hjn : n1 ≤ j := by omega
        have hcase : t = 0 ∨ ∃ t', t = t' + 1 := by cases t with | zero => exact .inl rfl | succ t' => exact .inr ⟨t', rfl⟩
        rcases hcase with ht0 | ⟨t', ht'⟩
        · have HT := hide ht0
          have g0 : ((t : Int) == 0) = true := by simp [ht0]
          clear ht0
          go_wp2_with fail
          go_roundw
          case rel => exact ⟨t + 1, by omega, by go_num, _, rfl⟩
          case measure => simp [intOf]; omega
        obtain ⟨b', off', u, A2, n2, c2, hA', hbB', hu, f0, hU⟩ := HL.out.rowAt (show t' < n by omega)
        obtain ⟨rfl, rfl⟩ : b = b' ∧ off = off' := by simpa using hA'
        have hug : all.getD t' [] = u := by rw [List.getD, hu]; rfl
        have hn2 : n2 = n1 := by rw [← hU.1, ← hug]; exact HR.out t' (by omega)
        subst hn2
        have g0 : ((t : Int) == 0) = false := by simp; omega
        have ht1 : (t : Int) - 1 = (t' : Int) := by omega
        have h3 : (0 : Int) ≤ (t' : Int) := by omega
        have h4 : (t' : Int) < (n : Int) := by omega
        have f0' : (w2.drewN mj).cell? ⟨b, off + t', none⟩ = some (.slice A2 n2 c2) := f0
        have hls := HLESS.out t' (by omega)
        rw [hug, show t' + 1 = t from ht'.symm, RG.out] at hls
        obtain ⟨D, hD⟩ : ∃ D, diffAt u r = D := ⟨_, rfl⟩
        have HSAME := hide (fun d (hd : d < D) => diff_same u r d (by rw [hD]; exact hd) : ∀ d, d < D → u.getD d 0 = r.getD d 0)
        rw [hD] at hls
        have HLS := hide hls
        have hDm := hls.1
        have HU := hide hU
        have HT := hide ht'
        clear hA' hu hug hU hls hD ht'
        go_wp2_with fail
        go_loopw [12] (fun i wr => ∃ d : Nat, d ≤ D ∧ i = .int .i64 (d : Int) ∧ ∃ mm, wr = w2.drewN mm) (fun i _ => n2 - (intOf i).toNat)
        case atStart => exact ⟨0, Nat.zero_le _, rfl, _, rfl⟩
        case round =>
          obtain ⟨d, hd, rfl, md, rfl⟩ := hrel
          obtain ⟨b1, o1, rfl, hb1, hc1⟩ := RR.out.at_ (show d < n2 by omega)
          obtain ⟨b3, o3, rfl, hb3, hc3⟩ := HU.out.at_ (show d < n2 by omega)
          have h5 : (0 : Int) ≤ (d : Int) := by omega
          have h6 : (d : Int) < (n2 : Int) := by omega
          have g5 : decide ((d : Int) < (n2 : Int)) = true := by simp; omega
          by_cases hdD : d < D
          · have hs := HSAME.out d hdD
            rw [hs] at hc3
            obtain ⟨x, hx⟩ : ∃ x, r.getD d 0 = x := ⟨_, rfl⟩
            rw [hx] at hc1 hc3
            have g6 : (x == x) = true := by simp
            clear hs hx
            go_wp2_with fail
            go_quiet (fail)
            go_wp2_with fail
            go_roundw
            case rel => exact ⟨d + 1, by omega, by go_num, _, by first | rfl | exact World.drewN_drewN ..⟩
            case measure => simp [intOf]; omega
          · have hdd : D = d := by omega
            subst hdd
            have hs := HLS.out.2
            obtain ⟨x, hx⟩ : ∃ x, r.getD D 0 = x := ⟨_, rfl⟩
            obtain ⟨y, hy⟩ : ∃ y, u.getD D 0 = y := ⟨_, rfl⟩
            rw [hx] at hc1 hs
            rw [hy] at hc3 hs
            have g6 : (y == x) = false := by simp; omega
            have g7 : ((D : Int) == (n2 : Int)) = false := by simp; omega
            have g8 : decide (x < y) = false := by simp; omega
            clear hx hy
            go_wp2_with fail
            go_quiet (fail)
            go_wp2_with fail
            go_quiet (fail)
            go_wp2_with fail
            go_roundw
            case rel => exact ⟨t + 1, by omega, by go_num, _, by first | rfl | exact World.drewN_drewN ..⟩
            case measure => simp [intOf]; omega
set_option maxRecDepth 100000 in
theorem lifted (os : Os) (started : os.Started) (H : Type) (enc : TypeId × Value → H) :
    ReturnsInHanded {} Try.checked os 5 .any (Rows.fnAllCutsSpec.pre6 enc Try.prog Try.f5 Rows.fnAllCutsRow.domain false) (Rows.fnAllCutsSpec.post enc Try.prog Try.f5 false true false false) := by
  refine law_lifted (C := Try.checked) (f := 5) (fn := Try.f5) (tb := 4) os (by kernel_rfl) started (by kernel_rfl) Try.func5 (by kernel_rfl) (by kernel_rfl) rfl Try.underlying4 rfl (fun H ds h => ?_) H enc
    (ChangeSpec.witness6 (enc := enc) (C := Try.checked) false ⟨#[], #[.slice none 0 0], []⟩ 8 (by kernel_rfl) (by kernel_rfl) (by kernel_rfl) (by kernel_rfl)) ?_
  · rw [show Try.f5.params.size = 1 from by kernel_rfl] at h
    match ds, h with
    | [d0], _ => rfl
  intro W base args ds ps hval hA hlt
  have hval : ∀ (j : Nat) t v, Try.f5.params[j]? = some t → args[j]? = some v → Value.okWide Try.prog W .any base t v := hval
  have hA : DataW.TrodAll enc Try.prog W 0 (fun _ => true) true Try.f5.params.toList args.toList ds ps := hA
  rw [Try.params5] at hA hval
  obtain ⟨v0, vs0, d0, ds0, p0, q0, hargs, rfl, rfl, h0, r0⟩ := trodAll_cons hA
  obtain ⟨rfl, rfl, rfl⟩ := trodAll_nil r0
  obtain rfl : args = #[v0] := by cases args; simp_all
  obtain ⟨A0, n0, c0, rfl, hC0⟩ := openB Try.underlying22 Try.underlying5 cells_u8 (hval 0 22 v0 rfl rfl) h0 (fun x hx => hlt x (by simp [hx]))
  exact walk W hC0
theorem proved : Rows.FnAllCutsSaid :=
  OpenClaim.holds_of_wide 5 Try.f5 rfl rfl rfl rfl rfl rfl rfl ⟨rfl, rfl, rfl, rfl, rfl⟩ rfl rfl rfl rfl rfl (by kernel_rfl) Try.func5 (by kernel_rfl)
    (of_decide_eq_true (by kernel_rfl)) (by unfold Func.isWrapper; first | (rw [if_pos (by decide +kernel)]; kernel_rfl) | (rw [if_neg (by decide +kernel)]; exact ⟨rfl, rfl⟩))
    (fun os started H enc _ => lifted os started H enc)
#print axioms proved
end Go.Proofs.Ytceeijbnhnpfgaa.fnAllCuts
