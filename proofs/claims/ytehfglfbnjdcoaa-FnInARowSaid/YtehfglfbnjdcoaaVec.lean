/-
  The contracts of the functions on vectors.
-/
import Derived.Test.YtehfglfbnjdcoaaProg
import Derived.Test.YtehfglfbnjdcoaaFix
import Derived.Test.YtehfglfbnjdcoaaPlainV
import Derived.Test.YtehfglfbnjdcoaaInts
import Derived.WalkKit
import Derived.Deep.QuietTactic
import Derived.BigQuiet
namespace Go.Proofs.Ytehfglfbnjdcoaa
open Go.RowKit
set_option maxRecDepth 100000

theorem impl_allFix {B n c : Nat} {A : Option Addr} {xs : List Int} (w : World) (h : RI w B A n c xs) (hn : n ≤ 1048576) :
    Calls Try.prog 136 #[.slice A n c] w fun e w' => e = .returned (.bool (xs.all fxOk)) ∧ w = w' := by
  have hl := hide h.1
  go_enter Try.func136, Try.ntmps136
  go_wp2
  go_loop [7] (fun i => ∃ k : Nat, k ≤ n ∧ i = .int .i64 (k : Int) ∧ Hid (∀ j, j < k → fxOk (xs.getD j 0) = true)) (fun i => n - (intOf i).toNat)
  case atStart => exact ⟨0, Nat.zero_le _, rfl, fun j hj => absurd hj (by omega)⟩
  case round =>
    obtain ⟨k, hk, rfl, hall⟩ := hrel
    by_cases hlt : k < n
    · obtain ⟨b, off, rfl, hbB, hc⟩ := h.at_ hlt
      obtain ⟨x, hx⟩ : ∃ x, x = xs.getD k 0 := ⟨_, rfl⟩
      rw [← hx] at hc
      have HX := hide hx
      clear hx h
      cases hf : fxOk x with
      | true =>
        go_wp2_with (go_at_call 139; refine (impl_FixOk _ _).mono ?_; rintro e w' ⟨rfl, rfl⟩)
        go_round
        case rel => exact ⟨k + 1, by omega, by go_num, fun j hj => by
          by_cases hjk : j < k
          · exact hall.out j hjk
          · obtain rfl : j = k := by omega
            rw [← HX.out]; exact hf⟩
        case measure => simp [intOf]; omega
      | false =>
        go_wp2_with (go_at_call 139; refine (impl_FixOk _ _).mono ?_; rintro e w' ⟨rfl, rfl⟩)
        go_ret
        exact ⟨rB (all_no (by rw [hl.out]; exact hlt) (by rw [← HX.out]; exact hf)).symm, rfl⟩
    · obtain rfl : k = n := by omega
      clear h
      go_wp2
      go_ret
      exact ⟨rB (all_upto hl.out hall.out).symm, rfl⟩
theorem spec_VecOk {B n c : Nat} {A : Option Addr} {xs : List Int} (w : World) (h : RI w B A n c xs) (hn : n ≤ 1048576) :
    Calls Try.prog 62 #[.slice A n c] w fun e w' => e = .returned (.bool (okV xs)) ∧ w = w' := by
  have hl := hide h.1
  go_enter Try.func62, Try.ntmps62
  go_wp2
  go_loop [3] (fun i => ∃ k : Nat, k ≤ n ∧ i = .int .i64 (k : Int) ∧ Hid (∀ j, j < k → fxOk (xs.getD j 0) = true)) (fun i => n - (intOf i).toNat)
  case atStart => exact ⟨0, Nat.zero_le _, rfl, fun j hj => absurd hj (by omega)⟩
  case round =>
    obtain ⟨k, hk, rfl, hall⟩ := hrel
    by_cases hlt : k < n
    · obtain ⟨b, off, rfl, hbB, hc⟩ := h.at_ hlt
      obtain ⟨x, hx⟩ : ∃ x, x = xs.getD k 0 := ⟨_, rfl⟩
      rw [← hx] at hc
      have HX := hide hx
      clear hx h
      cases hf : fxOk x with
      | true =>
        go_wp2_with (go_at_call 125; refine (spec_FixOk _ _).mono ?_; rintro e w' ⟨rfl, rfl⟩)
        go_round
        case rel => exact ⟨k + 1, by omega, by go_num, fun j hj => by
          by_cases hjk : j < k
          · exact hall.out j hjk
          · obtain rfl : j = k := by omega
            rw [← HX.out]; exact hf⟩
        case measure => simp [intOf]; omega
      | false =>
        go_wp2_with (go_at_call 125; refine (spec_FixOk _ _).mono ?_; rintro e w' ⟨rfl, rfl⟩)
        go_ret
        exact ⟨rB (by have := all_no (by rw [hl.out]; exact hlt) (show fxOk (xs.getD k 0) = false from by rw [← HX.out]; exact hf); simp [okV, this]), rfl⟩
    · obtain rfl : k = n := by omega
      clear h
      go_wp2_with (go_at_call 115; refine (spec_l1In _ _ _ _).mono ?_; rintro e w' ⟨rfl, rfl⟩)
      go_ret
      exact ⟨rB (by have := all_upto hl.out hall.out; rw [okV, this, hl.out, Bool.and_true, Bool.eq_iff_iff]; simp; omega), rfl⟩
theorem impl_VecOk {B n c : Nat} {A : Option Addr} {xs : List Int} (w : World) (h : RI w B A n c xs) (hn : n ≤ 1048576) :
    Calls Try.prog 137 #[.slice A n c] w fun e w' => e = .returned (.bool (okV xs)) ∧ w = w' := by
  have hl := hide h.1
  by_cases h1 : 1 ≤ n
  · by_cases h2 : n ≤ 6
    · have h1' : (1 : Int) ≤ (n : Int) := by omega
      have h2' : (n : Int) ≤ 6 := by omega
      go_enter Try.func137, Try.ntmps137
      go_wp2_with (go_at_call 136; refine (impl_allFix _ h hn).mono ?_; rintro e w' ⟨rfl, rfl⟩)
      go_ret
      exact ⟨rB (by simp [okV, hl.out, h1, h2]), rfl⟩
    · have h2' : ¬ (n : Int) ≤ 6 := by omega
      have h1' : (1 : Int) ≤ (n : Int) := by omega
      go_enter Try.func137, Try.ntmps137
      go_wp2_with fail
      go_ret
      exact ⟨rB (by simp [okV, hl.out, h2]), rfl⟩
  · have h1' : ¬ (1 : Int) ≤ (n : Int) := by omega
    go_enter Try.func137, Try.ntmps137
    go_wp2_with fail
    go_ret
    exact ⟨rB (by simp [okV, hl.out, h1]), rfl⟩
theorem impl_vecOf {B n c : Nat} {A : Option Addr} {xs : List Int} (m : Int) (w : World) (h : RI w B A n c xs) (hn : n ≤ 1048576) :
    Calls Try.prog 91 #[.slice A n c, .int .i64 m] w fun e w' => e = .returned (.bool (okV xs && decide ((xs.length : Int) = m))) ∧ w = w' := by
  have hl := hide h.1
  cases hv : okV xs with
  | true =>
    by_cases hm : (n : Int) = m
    · have hm' : ((n : Int) == m) = true := by simp [hm]
      have HM := hide hm
      clear hm
      go_enter Try.func91, Try.ntmps91
      go_wp2_with (go_at_call 137; refine (impl_VecOk _ h hn).mono ?_; rintro e w' ⟨rfl, rfl⟩)
      go_ret
      exact ⟨rB (by simp [hl.out, HM.out]), rfl⟩
    · have hm' : ((n : Int) == m) = false := by simp [hm]
      have HM := hide hm
      clear hm
      go_enter Try.func91, Try.ntmps91
      go_wp2_with (go_at_call 137; refine (impl_VecOk _ h hn).mono ?_; rintro e w' ⟨rfl, rfl⟩)
      go_ret
      exact ⟨rB (by simp [hl.out, HM.out]), rfl⟩
  | false =>
    go_enter Try.func91, Try.ntmps91
    go_wp2_with (go_at_call 137; refine (impl_VecOk _ h hn).mono ?_; rintro e w' ⟨rfl, rfl⟩)
    go_ret
    exact ⟨rB (by simp), rfl⟩
theorem impl_pairOk {B n c B' n' c' : Nat} {A A' : Option Addr} {xs ys : List Int} (w : World) (h : RI w B A n c xs) (h' : RI w B' A' n' c' ys) (hn : n ≤ 1048576) (hn' : n' ≤ 1048576) :
    Calls Try.prog 130 #[.slice A n c, .slice A' n' c'] w fun e w' => e = .returned (.bool (pairV xs ys)) ∧ w = w' := by
  have hl := hide h.1
  cases hv : okV xs with
  | true =>
    go_enter Try.func130, Try.ntmps130
    go_wp2_with (first
      | (go_at_call 137; refine (impl_VecOk _ h hn).mono ?_; rintro e w' ⟨rfl, rfl⟩)
      | (go_at_call 91; refine (impl_vecOf _ _ h' hn').mono ?_; rintro e w' ⟨rfl, rfl⟩))
    go_ret
    exact ⟨rB (by rw [pairV, hv, ← hl.out, Bool.true_and]; congr 1; rw [Bool.eq_iff_iff]; simp; omega), rfl⟩
  | false =>
    go_enter Try.func130, Try.ntmps130
    go_wp2_with (go_at_call 137; refine (impl_VecOk _ h hn).mono ?_; rintro e w' ⟨rfl, rfl⟩)
    go_ret
    exact ⟨rB (by rw [pairV, hv]; rfl), rfl⟩
theorem spec_l3Pair {B n c B' n' c' : Nat} {A A' : Option Addr} {xs ys : List Int} (w : World) (h : RI w B A n c xs) (h' : RI w B' A' n' c' ys) (hn : n ≤ 1048576) (hn' : n' ≤ 1048576) :
    Calls Try.prog 128 #[.slice A n c, .slice A' n' c'] w fun e w' => e = .returned (.bool (pairV xs ys)) ∧ w = w' := by
  have hl := hide h.1
  have hl' := hide h'.1
  have HV := hide (spec_VecOk w h hn)
  have HV' := hide (spec_VecOk w h' hn')
  cases hv : okV xs with
  | true =>
    cases hv' : okV ys with
    | true =>
      go_enter Try.func128, Try.ntmps128
      go_wp2_with fail
      refine HV.out.mono ?_
      rintro e w' ⟨rfl, rfl⟩
      go_wp2_with fail
      refine HV'.out.mono ?_
      rintro e w' ⟨rfl, rfl⟩
      go_wp2_with fail
      go_ret
      exact ⟨rB (by rw [pairV, hv, hv', hl.out, hl'.out, Bool.true_and, Bool.true_and, Bool.eq_iff_iff]; simp; omega), rfl⟩
    | false =>
      go_enter Try.func128, Try.ntmps128
      go_wp2_with fail
      refine HV.out.mono ?_
      rintro e w' ⟨rfl, rfl⟩
      go_wp2_with fail
      refine HV'.out.mono ?_
      rintro e w' ⟨rfl, rfl⟩
      go_wp2_with fail
      go_ret
      exact ⟨rB (by rw [pairV, hv, hv']; rfl), rfl⟩
  | false =>
    go_enter Try.func128, Try.ntmps128
    go_wp2_with fail
    refine HV.out.mono ?_
    rintro e w' ⟨rfl, rfl⟩
    go_wp2_with fail
    go_ret
    exact ⟨rB (by rw [pairV, hv]; rfl), rfl⟩
theorem impl_VecAdd {B n c B' n' c' : Nat} {A A' : Option Addr} {xs ys : List Int} (w : World) (h : RI w B A n c xs) (h' : RI w B' A' n' c' ys) (hB : B ≤ w.heap.size) (hB' : B' ≤ w.heap.size) (hn : n ≤ 1048576) (hn' : n' ≤ 1048576) :
    Calls Try.prog 94 #[.slice A n c, .slice A' n' c'] w (GivesB (vAddS xs ys) (NI w (vAdd xs ys))) := by
  have hl := hide h.1
  have hl' := hide h'.1
  cases hp : pairV xs ys with
  | false =>
    go_enter Try.func94, Try.ntmps94
    go_wp2_with (go_at_call 130; refine (impl_pairOk _ h h' hn hn').mono ?_; rintro e w' ⟨rfl, rfl⟩)
    go_ret2
    exact givesB (by rw [vAddS, hp]; rfl) (NewI.nil (by rw [vAdd, hp]; rfl))
  | true =>
    have hpl := pairV_len hp
    have hnn : n = n' := by rw [← h.1, ← h'.1]; exact hpl.2.2
    subst hnn
    obtain ⟨zs, hz⟩ : ∃ zs, zs = List.zipWith fxAdd xs ys := ⟨_, rfl⟩
    obtain ⟨gs, hg⟩ : ∃ gs, gs = List.zipWith fxAddS xs ys := ⟨_, rfl⟩
    have hzl : zs.length = n := by rw [hz, zip_len _ hpl.2.2, h.1]
    have hgl : gs.length = n := by rw [hg, zip_len _ hpl.2.2, h.1]
    have HZ := hide hz
    have HG := hide hg
    have HZL := hide hzl
    have HGL := hide hgl
    have hn6 : n ≤ 6 := by rw [← h.1]; exact hpl.2.1
    clear hz hg hzl hgl hpl
    go_enter Try.func94, Try.ntmps94
    go_wp2_with (go_at_call 130; refine (impl_pairOk _ h h' hn hn').mono ?_; rintro e w' ⟨rfl, rfl⟩)
    have HP := hide hp
    clear hp
    go_loopw [6, 7, 18] (fun v fl i wr => ∃ k : Nat, k ≤ n ∧ i = .int .i64 (k : Int) ∧ fl = .bool ((gs.take k).any id) ∧ wr.ownsRow w.heap.size 3 1 v k (ivs (zs.take k)) ∧ Below w.heap.size w wr)
      (fun _ _ i _ => n - (intOf i).toNat)
    case atStart => exact ⟨0, Nat.zero_le _, rfl, rfl, World.ownsRow_made w #[] 0 (Nat.le_refl _) (by decide) rfl, (Below.refl _ _).alloc (Nat.le_refl _) _⟩
    case round =>
      obtain ⟨k, hk, rfl, rfl, hown, hb⟩ := hrel
      have hsz := hb.size
      by_cases hlt : k < n
      · obtain ⟨b, off, rfl, hbB, hc⟩ := h.at_ hlt
        obtain ⟨b', off', rfl, hbB', hc'⟩ := h'.at_ hlt
        have h1 : (0 : Int) ≤ (k : Int) := by omega
        have h2 : (k : Int) < (n : Int) := by omega
        obtain ⟨x, hx⟩ : ∃ x, x = xs.getD k 0 := ⟨_, rfl⟩
        obtain ⟨y, hy⟩ : ∃ y, y = ys.getD k 0 := ⟨_, rfl⟩
        obtain ⟨fb, hfb⟩ : ∃ fb, fb = (gs.take k).any id := ⟨_, rfl⟩
        rw [← hx] at hc
        rw [← hy] at hc'
        rw [← hfb]
        have hcx := RI.cellIn hc hb hbB hB
        have hcy := RI.cellIn hc' hb hbB' hB'
        have HS := hide (show (gs.take (k + 1)).any id = (fb || fxAddS x y) from by rw [any_one gs k (by rw [HGL.out]; exact hlt), hfb, HG.out, zip_get _ _ _ _ (by rw [hl.out]; exact hlt) (by rw [hl'.out]; exact hlt), hx, hy])
        have HV := hide (show ivs (zs.take (k + 1)) = ivs (zs.take k) ++ [iv (fxAdd x y)] from by rw [take_one zs k (by rw [HZL.out]; exact hlt) 0, HZ.out, zip_get _ _ _ _ (by rw [hl.out]; exact hlt) (by rw [hl'.out]; exact hlt), hx, hy]; simp [ivs])
        clear hx hy hc hc' h h' hfb
        cases fb
        all_goals
          go_wp2
          go_quiet ((go_at_call 112; exact quietL (impl_FixAdd _ _ _)))
          go_wp2_with (at_builtin; refine wpList_push1 (wr.drewN nq) (iv (fxAdd x y)) rfl (.tmp 33) (.tmp 35) _ rfl w.heap.size 3 _ 8 Try.underlying25 int_info rfl u6 _ _ rfl hown rfl rfl (by omega) (by omega) hsz ?_; intro v' w1 hown' hgr _)
          go_roundw
          case rel => exact ⟨k + 1, by omega, by go_num, by rw [HS.out]; rfl, by rw [HV.out]; exact hown', (below_drewN hb nq).grown hgr hsz (fun q hq => (hown.lt q hq).1)⟩
          case measure => simp [intOf]; omega
      · obtain rfl : k = n := by omega
        clear h h'
        go_wp2
        go_ret2
        exact givesB (by rw [vAddS, HP.out, List.take_of_length_le (by rw [HGL.out]; omega), HG.out]; rfl) (NewI.own hown hb (by rw [vAdd, if_pos HP.out, List.take_of_length_le (by rw [HZL.out]; omega), HZ.out]))
theorem impl_VecSub {B n c B' n' c' : Nat} {A A' : Option Addr} {xs ys : List Int} (w : World) (h : RI w B A n c xs) (h' : RI w B' A' n' c' ys) (hB : B ≤ w.heap.size) (hB' : B' ≤ w.heap.size) (hn : n ≤ 1048576) (hn' : n' ≤ 1048576) :
    Calls Try.prog 81 #[.slice A n c, .slice A' n' c'] w (GivesB (vSubS xs ys) (NI w (vSub xs ys))) := by
  have hl := hide h.1
  have hl' := hide h'.1
  cases hp : pairV xs ys with
  | false =>
    go_enter Try.func81, Try.ntmps81
    go_wp2_with (go_at_call 130; refine (impl_pairOk _ h h' hn hn').mono ?_; rintro e w' ⟨rfl, rfl⟩)
    go_ret2
    exact givesB (by rw [vSubS, hp]; rfl) (NewI.nil (by rw [vSub, hp]; rfl))
  | true =>
    have hpl := pairV_len hp
    have hnn : n = n' := by rw [← h.1, ← h'.1]; exact hpl.2.2
    subst hnn
    obtain ⟨zs, hz⟩ : ∃ zs, zs = List.zipWith fxSub xs ys := ⟨_, rfl⟩
    obtain ⟨gs, hg⟩ : ∃ gs, gs = List.zipWith fxSubS xs ys := ⟨_, rfl⟩
    have hzl : zs.length = n := by rw [hz, zip_len _ hpl.2.2, h.1]
    have hgl : gs.length = n := by rw [hg, zip_len _ hpl.2.2, h.1]
    have HZ := hide hz
    have HG := hide hg
    have HZL := hide hzl
    have HGL := hide hgl
    have hn6 : n ≤ 6 := by rw [← h.1]; exact hpl.2.1
    clear hz hg hzl hgl hpl
    go_enter Try.func81, Try.ntmps81
    go_wp2_with (go_at_call 130; refine (impl_pairOk _ h h' hn hn').mono ?_; rintro e w' ⟨rfl, rfl⟩)
    have HP := hide hp
    clear hp
    go_loopw [6, 7, 18] (fun v fl i wr => ∃ k : Nat, k ≤ n ∧ i = .int .i64 (k : Int) ∧ fl = .bool ((gs.take k).any id) ∧ wr.ownsRow w.heap.size 3 1 v k (ivs (zs.take k)) ∧ Below w.heap.size w wr)
      (fun _ _ i _ => n - (intOf i).toNat)
    case atStart => exact ⟨0, Nat.zero_le _, rfl, rfl, World.ownsRow_made w #[] 0 (Nat.le_refl _) (by decide) rfl, (Below.refl _ _).alloc (Nat.le_refl _) _⟩
    case round =>
      obtain ⟨k, hk, rfl, rfl, hown, hb⟩ := hrel
      have hsz := hb.size
      by_cases hlt : k < n
      · obtain ⟨b, off, rfl, hbB, hc⟩ := h.at_ hlt
        obtain ⟨b', off', rfl, hbB', hc'⟩ := h'.at_ hlt
        have h1 : (0 : Int) ≤ (k : Int) := by omega
        have h2 : (k : Int) < (n : Int) := by omega
        obtain ⟨x, hx⟩ : ∃ x, x = xs.getD k 0 := ⟨_, rfl⟩
        obtain ⟨y, hy⟩ : ∃ y, y = ys.getD k 0 := ⟨_, rfl⟩
        obtain ⟨fb, hfb⟩ : ∃ fb, fb = (gs.take k).any id := ⟨_, rfl⟩
        rw [← hx] at hc
        rw [← hy] at hc'
        rw [← hfb]
        have hcx := RI.cellIn hc hb hbB hB
        have hcy := RI.cellIn hc' hb hbB' hB'
        have HS := hide (show (gs.take (k + 1)).any id = (fb || fxSubS x y) from by rw [any_one gs k (by rw [HGL.out]; exact hlt), hfb, HG.out, zip_get _ _ _ _ (by rw [hl.out]; exact hlt) (by rw [hl'.out]; exact hlt), hx, hy])
        have HV := hide (show ivs (zs.take (k + 1)) = ivs (zs.take k) ++ [iv (fxSub x y)] from by rw [take_one zs k (by rw [HZL.out]; exact hlt) 0, HZ.out, zip_get _ _ _ _ (by rw [hl.out]; exact hlt) (by rw [hl'.out]; exact hlt), hx, hy]; simp [ivs])
        clear hx hy hc hc' h h' hfb
        cases fb
        all_goals
          go_wp2
          go_quiet ((go_at_call 131; exact quietL (impl_FixSub _ _ _)))
          go_wp2_with (at_builtin; refine wpList_push1 (wr.drewN nq) (iv (fxSub x y)) rfl (.tmp 33) (.tmp 35) _ rfl w.heap.size 3 _ 8 Try.underlying25 int_info rfl u6 _ _ rfl hown rfl rfl (by omega) (by omega) hsz ?_; intro v' w1 hown' hgr _)
          go_roundw
          case rel => exact ⟨k + 1, by omega, by go_num, by rw [HS.out]; rfl, by rw [HV.out]; exact hown', (below_drewN hb nq).grown hgr hsz (fun q hq => (hown.lt q hq).1)⟩
          case measure => simp [intOf]; omega
      · obtain rfl : k = n := by omega
        clear h h'
        go_wp2
        go_ret2
        exact givesB (by rw [vSubS, HP.out, List.take_of_length_le (by rw [HGL.out]; omega), HG.out]; rfl) (NewI.own hown hb (by rw [vSub, if_pos HP.out, List.take_of_length_le (by rw [HZL.out]; omega), HZ.out]))
theorem spec_VecAdd {B n c B' n' c' : Nat} {A A' : Option Addr} {xs ys : List Int} (w : World) (h : RI w B A n c xs) (h' : RI w B' A' n' c' ys) (hB : B ≤ w.heap.size) (hB' : B' ≤ w.heap.size) (hn : n ≤ 1048576) (hn' : n' ≤ 1048576) :
    Calls Try.prog 87 #[.slice A n c, .slice A' n' c'] w (GivesB (vAddS xs ys) (NI w (vAdd xs ys))) := by
  have hl := hide h.1
  have hl' := hide h'.1
  cases hp : pairV xs ys with
  | false =>
    go_enter Try.func87, Try.ntmps87
    go_wp2_with fail
    go_loopw [6, 7, 8] (fun v fl i wr => i = .int .i64 0 ∧ fl = .bool false ∧ v = .slice (some ⟨w.heap.size, 0, none⟩) 0 0 ∧ wr = w.alloc (.cells #[] 3)) (fun _ _ _ _ => 0)
    case atStart => exact ⟨rfl, rfl, rfl, rfl⟩
    case round =>
      obtain ⟨rfl, rfl, rfl, rfl⟩ := hrel
      have hb : Below w.heap.size w (w.alloc (.cells #[] 3)) := (Below.refl _ _).alloc (Nat.le_refl _) _
      have HP3 := hide (spec_l3Pair (w.alloc (.cells #[] 3)) ((h.more hB).below hb) ((h'.more hB').below hb) hn hn')
      clear h h'
      have hfin : GivesB (vAddS xs ys) (NI w (vAdd xs ys)) (.returned (.tuple #[.slice (some ⟨w.heap.size, 0, none⟩) 0 0, .bool false])) (w.alloc (.cells #[] 3)) :=
        givesB (by rw [vAddS, hp]; rfl) (NewI.own (xs := []) (World.ownsRow_made w #[] 0 (Nat.le_refl _) (by decide) rfl) hb (by rw [vAdd, hp]; rfl))
      have HF := hide hfin
      clear hfin
      by_cases hlt : 0 < n
      · go_wp2_with (go_at_call 128; refine HP3.out.mono ?_; rintro e w' ⟨rfl, rfl⟩)
        go_ret2
        exact HF.out
      · go_wp2_with fail
        go_ret2
        exact HF.out
  | true =>
    have hpl := pairV_len hp
    have hnn : n = n' := by rw [← h.1, ← h'.1]; exact hpl.2.2
    subst hnn
    obtain ⟨zs, hz⟩ : ∃ zs, zs = List.zipWith fxAdd xs ys := ⟨_, rfl⟩
    obtain ⟨gs, hg⟩ : ∃ gs, gs = List.zipWith fxAddS xs ys := ⟨_, rfl⟩
    have hzl : zs.length = n := by rw [hz, zip_len _ hpl.2.2, h.1]
    have hgl : gs.length = n := by rw [hg, zip_len _ hpl.2.2, h.1]
    have HZ := hide hz
    have HG := hide hg
    have HZL := hide hzl
    have HGL := hide hgl
    have hn6 : n ≤ 6 := by rw [← h.1]; exact hpl.2.1
    clear hz hg hzl hgl hpl
    go_enter Try.func87, Try.ntmps87
    go_wp2_with fail
    go_loopw [6, 7, 8] (fun v fl i wr => ∃ k : Nat, k ≤ n ∧ i = .int .i64 (k : Int) ∧ fl = .bool ((gs.take k).any id) ∧ wr.ownsRow w.heap.size 3 1 v k (ivs (zs.take k)) ∧ Below w.heap.size w wr)
      (fun _ _ i _ => n - (intOf i).toNat)
    case atStart => exact ⟨0, Nat.zero_le _, rfl, rfl, World.ownsRow_made w #[] 0 (Nat.le_refl _) (by decide) rfl, (Below.refl _ _).alloc (Nat.le_refl _) _⟩
    case round =>
      obtain ⟨k, hk, rfl, rfl, hown, hb⟩ := hrel
      have hsz := hb.size
      by_cases hlt : k < n
      · have HP3 := hide (spec_l3Pair wr ((h.more hB).below hb) ((h'.more hB').below hb) hn hn')
        obtain ⟨b, off, rfl, hbB, hc⟩ := h.at_ hlt
        obtain ⟨b', off', rfl, hbB', hc'⟩ := h'.at_ hlt
        have h1 : (0 : Int) ≤ (k : Int) := by omega
        have h2 : (k : Int) < (n : Int) := by omega
        obtain ⟨x, hx⟩ : ∃ x, x = xs.getD k 0 := ⟨_, rfl⟩
        obtain ⟨y, hy⟩ : ∃ y, y = ys.getD k 0 := ⟨_, rfl⟩
        rw [← hx] at hc
        rw [← hy] at hc'
        have hcx := RI.cellIn hc hb hbB hB
        have hcy := RI.cellIn hc' hb hbB' hB'
        obtain ⟨fb, hfb⟩ : ∃ fb, fb = (gs.take k).any id := ⟨_, rfl⟩
        rw [← hfb]
        have HS := hide (show (gs.take (k + 1)).any id = (fb || fxAddS x y) from by rw [any_one gs k (by rw [HGL.out]; exact hlt), hfb, HG.out, zip_get _ _ _ _ (by rw [hl.out]; exact hlt) (by rw [hl'.out]; exact hlt), hx, hy])
        have HV := hide (show ivs (zs.take (k + 1)) = ivs (zs.take k) ++ [iv (fxAdd x y)] from by rw [take_one zs k (by rw [HZL.out]; exact hlt) 0, HZ.out, zip_get _ _ _ _ (by rw [hl.out]; exact hlt) (by rw [hl'.out]; exact hlt), hx, hy]; simp [ivs])
        clear hx hy hc hc' h h' hfb
        cases fb
        all_goals
          go_wp2_with (go_at_call 128; refine HP3.out.mono ?_; rintro e w' ⟨rfl, rfl⟩)
          go_quiet ((go_at_call 110; exact quietL (spec_FixAdd _ _ _)))
          go_wp2_with (at_builtin; refine wpList_push1 (wr.drewN nq) (iv (fxAdd x y)) rfl (.tmp 35) (.tmp 37) _ rfl w.heap.size 3 _ 8 Try.underlying25 int_info rfl u6 _ _ rfl hown rfl rfl (by omega) (by omega) hsz ?_; intro v' w1 hown' hgr _)
          go_roundw
          case rel => exact ⟨k + 1, by omega, by go_num, by rw [HS.out]; rfl, by rw [HV.out]; exact hown', (below_drewN hb nq).grown hgr hsz (fun q hq => (hown.lt q hq).1)⟩
          case measure => simp [intOf]; omega
      · obtain rfl : k = n := by omega
        clear h h'
        have HP := hide hp
        clear hp
        go_wp2
        go_ret2
        exact givesB (by rw [vAddS, HP.out, List.take_of_length_le (by rw [HGL.out]; omega), HG.out]; rfl) (NewI.own hown hb (by rw [vAdd, if_pos HP.out, List.take_of_length_le (by rw [HZL.out]; omega), HZ.out]))
theorem spec_VecSub {B n c B' n' c' : Nat} {A A' : Option Addr} {xs ys : List Int} (w : World) (h : RI w B A n c xs) (h' : RI w B' A' n' c' ys) (hB : B ≤ w.heap.size) (hB' : B' ≤ w.heap.size) (hn : n ≤ 1048576) (hn' : n' ≤ 1048576) :
    Calls Try.prog 76 #[.slice A n c, .slice A' n' c'] w (GivesB (vSubS xs ys) (NI w (vSub xs ys))) := by
  have hl := hide h.1
  have hl' := hide h'.1
  cases hp : pairV xs ys with
  | false =>
    go_enter Try.func76, Try.ntmps76
    go_wp2_with fail
    go_loopw [6, 7, 8] (fun v fl i wr => i = .int .i64 0 ∧ fl = .bool false ∧ v = .slice (some ⟨w.heap.size, 0, none⟩) 0 0 ∧ wr = w.alloc (.cells #[] 3)) (fun _ _ _ _ => 0)
    case atStart => exact ⟨rfl, rfl, rfl, rfl⟩
    case round =>
      obtain ⟨rfl, rfl, rfl, rfl⟩ := hrel
      have hb : Below w.heap.size w (w.alloc (.cells #[] 3)) := (Below.refl _ _).alloc (Nat.le_refl _) _
      have HP3 := hide (spec_l3Pair (w.alloc (.cells #[] 3)) ((h.more hB).below hb) ((h'.more hB').below hb) hn hn')
      clear h h'
      have hfin : GivesB (vSubS xs ys) (NI w (vSub xs ys)) (.returned (.tuple #[.slice (some ⟨w.heap.size, 0, none⟩) 0 0, .bool false])) (w.alloc (.cells #[] 3)) :=
        givesB (by rw [vSubS, hp]; rfl) (NewI.own (xs := []) (World.ownsRow_made w #[] 0 (Nat.le_refl _) (by decide) rfl) hb (by rw [vSub, hp]; rfl))
      have HF := hide hfin
      clear hfin
      by_cases hlt : 0 < n
      · go_wp2_with (go_at_call 128; refine HP3.out.mono ?_; rintro e w' ⟨rfl, rfl⟩)
        go_ret2
        exact HF.out
      · go_wp2_with fail
        go_ret2
        exact HF.out
  | true =>
    have hpl := pairV_len hp
    have hnn : n = n' := by rw [← h.1, ← h'.1]; exact hpl.2.2
    subst hnn
    obtain ⟨zs, hz⟩ : ∃ zs, zs = List.zipWith fxSub xs ys := ⟨_, rfl⟩
    obtain ⟨gs, hg⟩ : ∃ gs, gs = List.zipWith fxSubS xs ys := ⟨_, rfl⟩
    have hzl : zs.length = n := by rw [hz, zip_len _ hpl.2.2, h.1]
    have hgl : gs.length = n := by rw [hg, zip_len _ hpl.2.2, h.1]
    have HZ := hide hz
    have HG := hide hg
    have HZL := hide hzl
    have HGL := hide hgl
    have hn6 : n ≤ 6 := by rw [← h.1]; exact hpl.2.1
    clear hz hg hzl hgl hpl
    go_enter Try.func76, Try.ntmps76
    go_wp2_with fail
    go_loopw [6, 7, 8] (fun v fl i wr => ∃ k : Nat, k ≤ n ∧ i = .int .i64 (k : Int) ∧ fl = .bool ((gs.take k).any id) ∧ wr.ownsRow w.heap.size 3 1 v k (ivs (zs.take k)) ∧ Below w.heap.size w wr)
      (fun _ _ i _ => n - (intOf i).toNat)
    case atStart => exact ⟨0, Nat.zero_le _, rfl, rfl, World.ownsRow_made w #[] 0 (Nat.le_refl _) (by decide) rfl, (Below.refl _ _).alloc (Nat.le_refl _) _⟩
    case round =>
      obtain ⟨k, hk, rfl, rfl, hown, hb⟩ := hrel
      have hsz := hb.size
      by_cases hlt : k < n
      · have HP3 := hide (spec_l3Pair wr ((h.more hB).below hb) ((h'.more hB').below hb) hn hn')
        obtain ⟨b, off, rfl, hbB, hc⟩ := h.at_ hlt
        obtain ⟨b', off', rfl, hbB', hc'⟩ := h'.at_ hlt
        have h1 : (0 : Int) ≤ (k : Int) := by omega
        have h2 : (k : Int) < (n : Int) := by omega
        obtain ⟨x, hx⟩ : ∃ x, x = xs.getD k 0 := ⟨_, rfl⟩
        obtain ⟨y, hy⟩ : ∃ y, y = ys.getD k 0 := ⟨_, rfl⟩
        rw [← hx] at hc
        rw [← hy] at hc'
        have hcx := RI.cellIn hc hb hbB hB
        have hcy := RI.cellIn hc' hb hbB' hB'
        obtain ⟨fb, hfb⟩ : ∃ fb, fb = (gs.take k).any id := ⟨_, rfl⟩
        rw [← hfb]
        have HS := hide (show (gs.take (k + 1)).any id = (fb || fxSubS x y) from by rw [any_one gs k (by rw [HGL.out]; exact hlt), hfb, HG.out, zip_get _ _ _ _ (by rw [hl.out]; exact hlt) (by rw [hl'.out]; exact hlt), hx, hy])
        have HV := hide (show ivs (zs.take (k + 1)) = ivs (zs.take k) ++ [iv (fxSub x y)] from by rw [take_one zs k (by rw [HZL.out]; exact hlt) 0, HZ.out, zip_get _ _ _ _ (by rw [hl.out]; exact hlt) (by rw [hl'.out]; exact hlt), hx, hy]; simp [ivs])
        clear hx hy hc hc' h h' hfb
        cases fb
        all_goals
          go_wp2_with (go_at_call 128; refine HP3.out.mono ?_; rintro e w' ⟨rfl, rfl⟩)
          go_quiet ((go_at_call 129; exact quietL (spec_FixSub _ _ _)))
          go_wp2_with (at_builtin; refine wpList_push1 (wr.drewN nq) (iv (fxSub x y)) rfl (.tmp 35) (.tmp 37) _ rfl w.heap.size 3 _ 8 Try.underlying25 int_info rfl u6 _ _ rfl hown rfl rfl (by omega) (by omega) hsz ?_; intro v' w1 hown' hgr _)
          go_roundw
          case rel => exact ⟨k + 1, by omega, by go_num, by rw [HS.out]; rfl, by rw [HV.out]; exact hown', (below_drewN hb nq).grown hgr hsz (fun q hq => (hown.lt q hq).1)⟩
          case measure => simp [intOf]; omega
      · obtain rfl : k = n := by omega
        clear h h'
        have HP := hide hp
        clear hp
        go_wp2
        go_ret2
        exact givesB (by rw [vSubS, HP.out, List.take_of_length_le (by rw [HGL.out]; omega), HG.out]; rfl) (NewI.own hown hb (by rw [vSub, if_pos HP.out, List.take_of_length_le (by rw [HZL.out]; omega), HZ.out]))
theorem impl_VecScale {B n c : Nat} {A : Option Addr} {xs : List Int} (q : Int) (w : World) (h : RI w B A n c xs) (hB : B ≤ w.heap.size) (hn : n ≤ 1048576) :
    Calls Try.prog 95 #[.int .i64 q, .slice A n c] w (GivesB (vScaleS q xs) (NI w (vScale q xs))) := by
  have hl := hide h.1
  by_cases hp : okS q xs = true
  · have hq : fxOk q = true := by simp only [okS, Bool.and_eq_true] at hp; exact hp.1
    have hv : okV xs = true := by simp only [okS, Bool.and_eq_true] at hp; exact hp.2
    have hpl := okV_len hv
    obtain ⟨zs, hz⟩ : ∃ zs, zs = xs.map (fxMul q) := ⟨_, rfl⟩
    obtain ⟨gs, hg⟩ : ∃ gs, gs = xs.map (fxMulS q) := ⟨_, rfl⟩
    have hzl : zs.length = n := by rw [hz, List.length_map, h.1]
    have hgl : gs.length = n := by rw [hg, List.length_map, h.1]
    have HZ := hide hz
    have HG := hide hg
    have HZL := hide hzl
    have HGL := hide hgl
    have HP := hide hp
    have hn6 : n ≤ 6 := by rw [← h.1]; exact hpl.2
    clear hz hg hzl hgl hpl hp
    go_enter Try.func95, Try.ntmps95
    go_wp2_with (first | (go_at_call 139; refine (impl_FixOk _ _).mono ?_; rintro e w' ⟨rfl, rfl⟩) | (go_at_call 137; refine (impl_VecOk _ h hn).mono ?_; rintro e w' ⟨rfl, rfl⟩))
    go_loopw [6, 7, 22] (fun v fl i wr => ∃ k : Nat, k ≤ n ∧ i = .int .i64 (k : Int) ∧ fl = .bool ((gs.take k).any id) ∧ wr.ownsRow w.heap.size 3 1 v k (ivs (zs.take k)) ∧ Below w.heap.size w wr)
      (fun _ _ i _ => n - (intOf i).toNat)
    case atStart => exact ⟨0, Nat.zero_le _, rfl, rfl, World.ownsRow_made w #[] 0 (Nat.le_refl _) (by decide) rfl, (Below.refl _ _).alloc (Nat.le_refl _) _⟩
    case round =>
      obtain ⟨k, hk, rfl, rfl, hown, hb⟩ := hrel
      have hsz := hb.size
      by_cases hlt : k < n
      · skip
        obtain ⟨b, off, rfl, hbB, hc⟩ := h.at_ hlt
        have h1 : (0 : Int) ≤ (k : Int) := by omega
        have h2 : (k : Int) < (n : Int) := by omega
        obtain ⟨x, hx⟩ : ∃ x, x = xs.getD k 0 := ⟨_, rfl⟩
        rw [← hx] at hc
        have hcx := RI.cellIn hc hb hbB hB
        obtain ⟨fb, hfb⟩ : ∃ fb, fb = (gs.take k).any id := ⟨_, rfl⟩
        rw [← hfb]
        have HS := hide (show (gs.take (k + 1)).any id = (fb || fxMulS q x) from by rw [any_one gs k (by rw [HGL.out]; exact hlt), hfb, HG.out, map_get _ _ _ (by rw [hl.out]; exact hlt), hx])
        have HV := hide (show ivs (zs.take (k + 1)) = ivs (zs.take k) ++ [iv (fxMul q x)] from by rw [take_one zs k (by rw [HZL.out]; exact hlt) 0, HZ.out, map_get _ _ _ (by rw [hl.out]; exact hlt), hx]; simp [ivs])
        clear hx hc h hfb
        cases fb
        all_goals
          go_wp2_with (first | (go_at_call 140; refine (impl_FixMul _ _ _).mono ?_; rintro e w' ⟨rfl, rfl⟩) | (at_builtin; refine wpList_push1 (wr) (iv (fxMul q x)) rfl (.tmp 34) (.tmp 36) _ rfl w.heap.size 3 _ 8 Try.underlying25 int_info rfl u6 _ _ rfl hown rfl rfl (by omega) (by omega) hsz ?_; intro v' w1 hown' hgr _))
          go_roundw
          case rel => exact ⟨k + 1, by omega, by go_num, by rw [HS.out]; rfl, by rw [HV.out]; exact hown', hb.grown hgr hsz (fun q hq => (hown.lt q hq).1)⟩
          case measure => simp [intOf]; omega
      · obtain rfl : k = n := by omega
        clear h hq hv
        go_wp2
        go_ret2
        exact givesB (by rw [vScaleS, HP.out, List.take_of_length_le (by rw [HGL.out]; omega), HG.out]; simp [List.any_map]) (NewI.own hown hb (by rw [vScale, if_pos HP.out, List.take_of_length_le (by rw [HZL.out]; omega), HZ.out]))
  · have hp' : okS q xs = false := by simpa using hp
    have HN := hide hp'
    clear hp hp'
    cases hq : fxOk q with
    | false =>
      go_enter Try.func95, Try.ntmps95
      go_wp2_with (go_at_call 139; refine (impl_FixOk _ _).mono ?_; rintro e w' ⟨rfl, rfl⟩)
      go_ret2
      exact givesB (by rw [vScaleS, HN.out]; rfl) (NewI.nil (by rw [vScale, HN.out]; rfl))
    | true =>
      cases hv : okV xs with
      | false =>
        go_enter Try.func95, Try.ntmps95
        go_wp2_with (first | (go_at_call 139; refine (impl_FixOk _ _).mono ?_; rintro e w' ⟨rfl, rfl⟩) | (go_at_call 137; refine (impl_VecOk _ h hn).mono ?_; rintro e w' ⟨rfl, rfl⟩))
        go_ret2
        exact givesB (by rw [vScaleS, HN.out]; rfl) (NewI.nil (by rw [vScale, HN.out]; rfl))
      | true => exact absurd HN.out (by simp [okS, hq, hv])
theorem spec_VecScale {B n c : Nat} {A : Option Addr} {xs : List Int} (q : Int) (w : World) (h : RI w B A n c xs) (hB : B ≤ w.heap.size) (hn : n ≤ 1048576) :
    Calls Try.prog 89 #[.int .i64 q, .slice A n c] w (GivesB (vScaleS q xs) (NI w (vScale q xs))) := by
  have hl := hide h.1
  by_cases hp : okS q xs = true
  · have hq : fxOk q = true := by simp only [okS, Bool.and_eq_true] at hp; exact hp.1
    have hv : okV xs = true := by simp only [okS, Bool.and_eq_true] at hp; exact hp.2
    have hpl := okV_len hv
    obtain ⟨zs, hz⟩ : ∃ zs, zs = xs.map (fxMul q) := ⟨_, rfl⟩
    obtain ⟨gs, hg⟩ : ∃ gs, gs = xs.map (fxMulS q) := ⟨_, rfl⟩
    have hzl : zs.length = n := by rw [hz, List.length_map, h.1]
    have hgl : gs.length = n := by rw [hg, List.length_map, h.1]
    have HZ := hide hz
    have HG := hide hg
    have HZL := hide hzl
    have HGL := hide hgl
    have HP := hide hp
    have hn6 : n ≤ 6 := by rw [← h.1]; exact hpl.2
    clear hz hg hzl hgl hpl hp
    go_enter Try.func89, Try.ntmps89
    go_wp2_with fail
    go_loopw [6, 7, 8] (fun v fl i wr => ∃ k : Nat, k ≤ n ∧ i = .int .i64 (k : Int) ∧ fl = .bool ((gs.take k).any id) ∧ wr.ownsRow w.heap.size 3 1 v k (ivs (zs.take k)) ∧ Below w.heap.size w wr)
      (fun _ _ i _ => n - (intOf i).toNat)
    case atStart => exact ⟨0, Nat.zero_le _, rfl, rfl, World.ownsRow_made w #[] 0 (Nat.le_refl _) (by decide) rfl, (Below.refl _ _).alloc (Nat.le_refl _) _⟩
    case round =>
      obtain ⟨k, hk, rfl, rfl, hown, hb⟩ := hrel
      have hsz := hb.size
      by_cases hlt : k < n
      · have HVO := hide (spec_VecOk wr ((h.more hB).below hb) hn)
        obtain ⟨b, off, rfl, hbB, hc⟩ := h.at_ hlt
        have h1 : (0 : Int) ≤ (k : Int) := by omega
        have h2 : (k : Int) < (n : Int) := by omega
        obtain ⟨x, hx⟩ : ∃ x, x = xs.getD k 0 := ⟨_, rfl⟩
        rw [← hx] at hc
        have hcx := RI.cellIn hc hb hbB hB
        obtain ⟨fb, hfb⟩ : ∃ fb, fb = (gs.take k).any id := ⟨_, rfl⟩
        rw [← hfb]
        have HS := hide (show (gs.take (k + 1)).any id = (fb || fxMulS q x) from by rw [any_one gs k (by rw [HGL.out]; exact hlt), hfb, HG.out, map_get _ _ _ (by rw [hl.out]; exact hlt), hx])
        have HV := hide (show ivs (zs.take (k + 1)) = ivs (zs.take k) ++ [iv (fxMul q x)] from by rw [take_one zs k (by rw [HZL.out]; exact hlt) 0, HZ.out, map_get _ _ _ (by rw [hl.out]; exact hlt), hx]; simp [ivs])
        clear hx hc h hfb
        cases fb
        all_goals
          go_wp2_with (first | (go_at_call 62; refine HVO.out.mono ?_; rintro e w' ⟨rfl, rfl⟩) | (go_at_call 125; refine (spec_FixOk _ _).mono ?_; rintro e w' ⟨rfl, rfl⟩) | (go_at_call 135; refine (spec_FixMul _ _ _).mono ?_; rintro e w' ⟨rfl, rfl⟩) | (at_builtin; refine wpList_push1 (wr) (iv (fxMul q x)) rfl (.tmp 35) (.tmp 37) _ rfl w.heap.size 3 _ 8 Try.underlying25 int_info rfl u6 _ _ rfl hown rfl rfl (by omega) (by omega) hsz ?_; intro v' w1 hown' hgr _))
          go_roundw
          case rel => exact ⟨k + 1, by omega, by go_num, by rw [HS.out]; rfl, by rw [HV.out]; exact hown', hb.grown hgr hsz (fun q hq => (hown.lt q hq).1)⟩
          case measure => simp [intOf]; omega
      · obtain rfl : k = n := by omega
        clear h hq hv
        go_wp2
        go_ret2
        exact givesB (by rw [vScaleS, HP.out, List.take_of_length_le (by rw [HGL.out]; omega), HG.out]; simp [List.any_map]) (NewI.own hown hb (by rw [vScale, if_pos HP.out, List.take_of_length_le (by rw [HZL.out]; omega), HZ.out]))
  · have hp' : okS q xs = false := by simpa using hp
    have HN := hide hp'
    clear hp hp'
    go_enter Try.func89, Try.ntmps89
    go_wp2_with fail
    go_loopw [6, 7, 8] (fun v fl i wr => i = .int .i64 0 ∧ fl = .bool false ∧ v = .slice (some ⟨w.heap.size, 0, none⟩) 0 0 ∧ wr = w.alloc (.cells #[] 3)) (fun _ _ _ _ => 0)
    case atStart => exact ⟨rfl, rfl, rfl, rfl⟩
    case round =>
      obtain ⟨rfl, rfl, rfl, rfl⟩ := hrel
      have hb : Below w.heap.size w (w.alloc (.cells #[] 3)) := (Below.refl _ _).alloc (Nat.le_refl _) _
      have HVO := hide (spec_VecOk (w.alloc (.cells #[] 3)) ((h.more hB).below hb) hn)
      clear h
      have hfin : GivesB (vScaleS q xs) (NI w (vScale q xs)) (.returned (.tuple #[.slice (some ⟨w.heap.size, 0, none⟩) 0 0, .bool false])) (w.alloc (.cells #[] 3)) :=
        givesB (by rw [vScaleS, HN.out]; rfl) (NewI.own (xs := []) (World.ownsRow_made w #[] 0 (Nat.le_refl _) (by decide) rfl) hb (by rw [vScale, HN.out]; rfl))
      have HF := hide hfin
      clear hfin
      by_cases hlt : 0 < n
      · cases hv : okV xs with
        | false =>
          go_wp2_with (go_at_call 62; refine HVO.out.mono ?_; rintro e w' ⟨rfl, rfl⟩)
          go_ret2
          exact HF.out
        | true =>
          cases hq : fxOk q with
          | false =>
            go_wp2_with (first | (go_at_call 62; refine HVO.out.mono ?_; rintro e w' ⟨rfl, rfl⟩) | (go_at_call 125; refine (spec_FixOk _ _).mono ?_; rintro e w' ⟨rfl, rfl⟩))
            go_ret2
            exact HF.out
          | true => exact absurd HN.out (by simp [okS, hq, hv])
      · go_wp2_with fail
        go_ret2
        exact HF.out
end Go.Proofs.Ytehfglfbnjdcoaa
