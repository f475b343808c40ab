/-
  The contracts of the functions on vectors.
-/
import Derived.Test.YtceeijbnhnpfgaaProg
import Derived.Test.YtceeijbnhnpfgaaFix
import Derived.Test.YtceeijbnhnpfgaaPlainV
import Derived.Test.YtceeijbnhnpfgaaInts
import Derived.WalkKit
import Derived.Deep.QuietTactic
import Derived.BigQuiet
namespace Go.Proofs.Ytceeijbnhnpfgaa
open Go.RowKit

theorem impl_allFix {B n c : Nat} {A : Option Addr} {xs : List Int} (w : World) (h : RI w B A n c xs) (hn : n ≤ 1048576) :
    Calls Try.prog 56 #[.slice A n c] w fun e w' => e = .returned (.bool (xs.all fxOk)) ∧ w = w' := by
  have hl := hide h.1
  go_enter Try.func56, Try.ntmps56
  go_wp2
  go_loop [7] (fun i => ∃ k : Nat, k ≤ n ∧ i = .int .i64 (k : Int) ∧ Hid (∀ j, j < k → fxOk (xs.getD j 0) = true)) (fun i => n - (intOf i).toNat)
  case atStart => exact ⟨0, Nat.zero_le _, rfl, fun j hj => absurd hj (by omega)⟩
  case round =>
    obtain ⟨k, hk, rfl, hall⟩ := hrel
    by_cases hlt : k < n
    · obtain ⟨b, off, rfl, hbB, hc⟩ := h.at_ hlt
      obtain ⟨x, hx⟩ : ∃ x, x = xs.getD k 0 := ⟨_, rfl⟩
      rw [← hx] at hc
      have HX := hide hx
      clear hx h
      cases hf : fxOk x with
      | true =>
        go_wp2_with (go_at_call 62; refine (impl_FixOk _ _).mono ?_; rintro e w' ⟨rfl, rfl⟩)
        go_round
        case rel => exact ⟨k + 1, by omega, by go_num, fun j hj => by
          by_cases hjk : j < k
          · exact hall.out j hjk
          · obtain rfl : j = k := by omega
            rw [← HX.out]; exact hf⟩
        case measure => simp [intOf]; omega
      | false =>
        go_wp2_with (go_at_call 62; refine (impl_FixOk _ _).mono ?_; rintro e w' ⟨rfl, rfl⟩)
        go_ret
        exact ⟨rB (all_no (by rw [hl.out]; exact hlt) (by rw [← HX.out]; exact hf)).symm, rfl⟩
    · obtain rfl : k = n := by omega
      clear h
      go_wp2
      go_ret
      exact ⟨rB (all_upto hl.out hall.out).symm, rfl⟩
theorem spec_VecOk {B n c : Nat} {A : Option Addr} {xs : List Int} (w : World) (h : RI w B A n c xs) (hn : n ≤ 1048576) :
    Calls Try.prog 12 #[.slice A n c] w fun e w' => e = .returned (.bool (okV xs)) ∧ w = w' := by
  have hl := hide h.1
  go_enter Try.func12, Try.ntmps12
  go_wp2
  go_loop [3] (fun i => ∃ k : Nat, k ≤ n ∧ i = .int .i64 (k : Int) ∧ Hid (∀ j, j < k → fxOk (xs.getD j 0) = true)) (fun i => n - (intOf i).toNat)
  case atStart => exact ⟨0, Nat.zero_le _, rfl, fun j hj => absurd hj (by omega)⟩
  case round =>
    obtain ⟨k, hk, rfl, hall⟩ := hrel
    by_cases hlt : k < n
    · obtain ⟨b, off, rfl, hbB, hc⟩ := h.at_ hlt
      obtain ⟨x, hx⟩ : ∃ x, x = xs.getD k 0 := ⟨_, rfl⟩
      rw [← hx] at hc
      have HX := hide hx
      clear hx h
      cases hf : fxOk x with
      | true =>
        go_wp2_with (go_at_call 37; refine (spec_FixOk _ _).mono ?_; rintro e w' ⟨rfl, rfl⟩)
        go_round
        case rel => exact ⟨k + 1, by omega, by go_num, fun j hj => by
          by_cases hjk : j < k
          · exact hall.out j hjk
          · obtain rfl : j = k := by omega
            rw [← HX.out]; exact hf⟩
        case measure => simp [intOf]; omega
      | false =>
        go_wp2_with (go_at_call 37; refine (spec_FixOk _ _).mono ?_; rintro e w' ⟨rfl, rfl⟩)
        go_ret
        exact ⟨rB (by have := all_no (by rw [hl.out]; exact hlt) (show fxOk (xs.getD k 0) = false from by rw [← HX.out]; exact hf); simp [okV, this]), rfl⟩
    · obtain rfl : k = n := by omega
      clear h
      go_wp2_with (go_at_call 38; refine (spec_l1In _ _ _ _).mono ?_; rintro e w' ⟨rfl, rfl⟩)
      go_ret
      exact ⟨rB (by have := all_upto hl.out hall.out; rw [okV, this, hl.out, Bool.and_true, Bool.eq_iff_iff]; simp; omega), rfl⟩
theorem impl_VecOk {B n c : Nat} {A : Option Addr} {xs : List Int} (w : World) (h : RI w B A n c xs) (hn : n ≤ 1048576) :
    Calls Try.prog 35 #[.slice A n c] w fun e w' => e = .returned (.bool (okV xs)) ∧ w = w' := by
  have hl := hide h.1
  by_cases h1 : 1 ≤ n
  · by_cases h2 : n ≤ 6
    · have h1' : (1 : Int) ≤ (n : Int) := by omega
      have h2' : (n : Int) ≤ 6 := by omega
      go_enter Try.func35, Try.ntmps35
      go_wp2_with (go_at_call 56; refine (impl_allFix _ h hn).mono ?_; rintro e w' ⟨rfl, rfl⟩)
      go_ret
      exact ⟨rB (by simp [okV, hl.out, h1, h2]), rfl⟩
    · have h2' : ¬ (n : Int) ≤ 6 := by omega
      have h1' : (1 : Int) ≤ (n : Int) := by omega
      go_enter Try.func35, Try.ntmps35
      go_wp2_with fail
      go_ret
      exact ⟨rB (by simp [okV, hl.out, h2]), rfl⟩
  · have h1' : ¬ (1 : Int) ≤ (n : Int) := by omega
    go_enter Try.func35, Try.ntmps35
    go_wp2_with fail
    go_ret
    exact ⟨rB (by simp [okV, hl.out, h1]), rfl⟩
theorem impl_vecOf {B n c : Nat} {A : Option Addr} {xs : List Int} (m : Int) (w : World) (h : RI w B A n c xs) (hn : n ≤ 1048576) :
    Calls Try.prog 47 #[.slice A n c, .int .i64 m] w fun e w' => e = .returned (.bool (okV xs && decide ((xs.length : Int) = m))) ∧ w = w' := by
  have hl := hide h.1
  cases hv : okV xs with
  | true =>
    by_cases hm : (n : Int) = m
    · have hm' : ((n : Int) == m) = true := by simp [hm]
      have HM := hide hm
      clear hm
      go_enter Try.func47, Try.ntmps47
      go_wp2_with (go_at_call 35; refine (impl_VecOk _ h hn).mono ?_; rintro e w' ⟨rfl, rfl⟩)
      go_ret
      exact ⟨rB (by simp [hl.out, HM.out]), rfl⟩
    · have hm' : ((n : Int) == m) = false := by simp [hm]
      have HM := hide hm
      clear hm
      go_enter Try.func47, Try.ntmps47
      go_wp2_with (go_at_call 35; refine (impl_VecOk _ h hn).mono ?_; rintro e w' ⟨rfl, rfl⟩)
      go_ret
      exact ⟨rB (by simp [hl.out, HM.out]), rfl⟩
  | false =>
    go_enter Try.func47, Try.ntmps47
    go_wp2_with (go_at_call 35; refine (impl_VecOk _ h hn).mono ?_; rintro e w' ⟨rfl, rfl⟩)
    go_ret
    exact ⟨rB (by simp), rfl⟩
theorem impl_pairOk {B n c B' n' c' : Nat} {A A' : Option Addr} {xs ys : List Int} (w : World) (h : RI w B A n c xs) (h' : RI w B' A' n' c' ys) (hn : n ≤ 1048576) (hn' : n' ≤ 1048576) :
    Calls Try.prog 33 #[.slice A n c, .slice A' n' c'] w fun e w' => e = .returned (.bool (pairV xs ys)) ∧ w = w' := by
  have hl := hide h.1
  cases hv : okV xs with
  | true =>
    go_enter Try.func33, Try.ntmps33
    go_wp2_with (first
      | (go_at_call 35; refine (impl_VecOk _ h hn).mono ?_; rintro e w' ⟨rfl, rfl⟩)
      | (go_at_call 47; refine (impl_vecOf _ _ h' hn').mono ?_; rintro e w' ⟨rfl, rfl⟩))
    go_ret
    exact ⟨rB (by rw [pairV, hv, ← hl.out, Bool.true_and]; congr 1; rw [Bool.eq_iff_iff]; simp; omega), rfl⟩
  | false =>
    go_enter Try.func33, Try.ntmps33
    go_wp2_with (go_at_call 35; refine (impl_VecOk _ h hn).mono ?_; rintro e w' ⟨rfl, rfl⟩)
    go_ret
    exact ⟨rB (by rw [pairV, hv]; rfl), rfl⟩
theorem impl_VecAdd {B n c B' n' c' : Nat} {A A' : Option Addr} {xs ys : List Int} (w : World) (h : RI w B A n c xs) (h' : RI w B' A' n' c' ys) (hB : B ≤ w.heap.size) (hB' : B' ≤ w.heap.size) (hn : n ≤ 1048576) (hn' : n' ≤ 1048576) :
    Calls Try.prog 9 #[.slice A n c, .slice A' n' c'] w (GivesB (vAddS xs ys) (NI w (vAdd xs ys))) := by
  have hl := hide h.1
  have hl' := hide h'.1
  cases hp : pairV xs ys with
  | false =>
    go_enter Try.func9, Try.ntmps9
    go_wp2_with (go_at_call 33; refine (impl_pairOk _ h h' hn hn').mono ?_; rintro e w' ⟨rfl, rfl⟩)
    go_ret2
    exact givesB (by rw [vAddS, hp]; rfl) (NewI.nil (by rw [vAdd, hp]; rfl))
  | true =>
    have hpl := pairV_len hp
    have hnn : n = n' := by rw [← h.1, ← h'.1]; exact hpl.2.2
    subst hnn
    obtain ⟨zs, hz⟩ : ∃ zs, zs = List.zipWith fxAdd xs ys := ⟨_, rfl⟩
    obtain ⟨gs, hg⟩ : ∃ gs, gs = List.zipWith fxAddS xs ys := ⟨_, rfl⟩
    have hzl : zs.length = n := by rw [hz, zip_len _ hpl.2.2, h.1]
    have hgl : gs.length = n := by rw [hg, zip_len _ hpl.2.2, h.1]
    have HZ := hide hz
    have HG := hide hg
    have HZL := hide hzl
    have HGL := hide hgl
    have hn6 : n ≤ 6 := by rw [← h.1]; exact hpl.2.1
    clear hz hg hzl hgl hpl
    go_enter Try.func9, Try.ntmps9
    go_wp2_with (go_at_call 33; refine (impl_pairOk _ h h' hn hn').mono ?_; rintro e w' ⟨rfl, rfl⟩)
    have HP := hide hp
    clear hp
    go_loopw [6, 7, 18] (fun v fl i wr => ∃ k : Nat, k ≤ n ∧ i = .int .i64 (k : Int) ∧ fl = .bool ((gs.take k).any id) ∧ wr.ownsRow w.heap.size 3 1 v k (ivs (zs.take k)) ∧ Below w.heap.size w wr)
      (fun _ _ i _ => n - (intOf i).toNat)
    case atStart => exact ⟨0, Nat.zero_le _, rfl, rfl, World.ownsRow_made w #[] 0 (Nat.le_refl _) (by decide) rfl, (Below.refl _ _).alloc (Nat.le_refl _) _⟩
    case round =>
      obtain ⟨k, hk, rfl, rfl, hown, hb⟩ := hrel
      have hsz := hb.size
      by_cases hlt : k < n
      · obtain ⟨b, off, rfl, hbB, hc⟩ := h.at_ hlt
        obtain ⟨b', off', rfl, hbB', hc'⟩ := h'.at_ hlt
        have h1 : (0 : Int) ≤ (k : Int) := by omega
        have h2 : (k : Int) < (n : Int) := by omega
        obtain ⟨x, hx⟩ : ∃ x, x = xs.getD k 0 := ⟨_, rfl⟩
        obtain ⟨y, hy⟩ : ∃ y, y = ys.getD k 0 := ⟨_, rfl⟩
        obtain ⟨fb, hfb⟩ : ∃ fb, fb = (gs.take k).any id := ⟨_, rfl⟩
        rw [← hx] at hc
        rw [← hy] at hc'
        rw [← hfb]
        have hcx := RI.cellIn hc hb hbB hB
        have hcy := RI.cellIn hc' hb hbB' hB'
        have HS := hide (show (gs.take (k + 1)).any id = (fb || fxAddS x y) from by rw [any_one gs k (by rw [HGL.out]; exact hlt), hfb, HG.out, zip_get _ _ _ _ (by rw [hl.out]; exact hlt) (by rw [hl'.out]; exact hlt), hx, hy])
        have HV := hide (show ivs (zs.take (k + 1)) = ivs (zs.take k) ++ [iv (fxAdd x y)] from by rw [take_one zs k (by rw [HZL.out]; exact hlt) 0, HZ.out, zip_get _ _ _ _ (by rw [hl.out]; exact hlt) (by rw [hl'.out]; exact hlt), hx, hy]; simp [ivs])
        clear hx hy hc hc' h h' hfb
        cases fb
        all_goals
          go_wp2
          go_quiet ((go_at_call 34; exact quietL (impl_FixAdd _ _ _)))
          go_wp2_with (at_builtin; refine wpList_push1 (wr.drewN nq) (iv (fxAdd x y)) rfl (.tmp 33) (.tmp 35) _ rfl w.heap.size 3 _ 8 Try.underlying24 int_info rfl u6 _ _ rfl hown rfl rfl (by omega) (by omega) hsz ?_; intro v' w1 hown' hgr _)
          go_roundw
          case rel => exact ⟨k + 1, by omega, by go_num, by rw [HS.out]; rfl, by rw [HV.out]; exact hown', (below_drewN hb nq).grown hgr hsz (fun q hq => (hown.lt q hq).1)⟩
          case measure => simp [intOf]; omega
      · obtain rfl : k = n := by omega
        clear h h'
        go_wp2
        go_ret2
        exact givesB (by rw [vAddS, HP.out, List.take_of_length_le (by rw [HGL.out]; omega), HG.out]; rfl) (NewI.own hown hb (by rw [vAdd, if_pos HP.out, List.take_of_length_le (by rw [HZL.out]; omega), HZ.out]))
end Go.Proofs.Ytceeijbnhnpfgaa
