/-
  The contracts of the functions on vectors, part 2.
-/
import Derived.Test.YtehfglfbnjdcoaaProg
import Derived.Test.YtehfglfbnjdcoaaVec
import Derived.WalkKit
import Derived.Deep.QuietTactic
import Derived.BigQuiet
namespace Go.Proofs.Ytehfglfbnjdcoaa
open Go.RowKit
set_option maxRecDepth 100000

theorem impl_VecRelu {B n c : Nat} {A : Option Addr} {xs : List Int} (w : World) (h : RI w B A n c xs) (hB : B ≤ w.heap.size) (hn : n ≤ 1048576) :
    Calls Try.prog 96 #[.slice A n c] w (Gives (NI w (vRelu xs))) := by
  have hl := hide h.1
  cases hv : okV xs with
  | true =>
    have hpl := okV_len hv
    obtain ⟨zs, hz⟩ : ∃ zs, zs = xs.map fxRelu := ⟨_, rfl⟩
    have hzl : zs.length = n := by rw [hz, List.length_map, h.1]
    have HZ := hide hz
    have HZL := hide hzl
    have hn6 : n ≤ 6 := by rw [← h.1]; exact hpl.2
    clear hz hzl hpl
    go_enter Try.func96, Try.ntmps96
    go_wp2_with (go_at_call 137; refine (impl_VecOk _ h hn).mono ?_; rintro e w' ⟨rfl, rfl⟩)
    go_loopw [3, 12] (fun v i wr => ∃ k : Nat, k ≤ n ∧ i = .int .i64 (k : Int) ∧ wr.ownsRow w.heap.size 3 1 v k (ivs (zs.take k)) ∧ Below w.heap.size w wr)
      (fun _ i _ => n - (intOf i).toNat)
    case atStart => exact ⟨0, Nat.zero_le _, rfl, World.ownsRow_made w #[] 0 (Nat.le_refl _) (by decide) rfl, (Below.refl _ _).alloc (Nat.le_refl _) _⟩
    case round =>
      obtain ⟨k, hk, rfl, hown, hb⟩ := hrel
      have hsz := hb.size
      by_cases hlt : k < n
      · have _hz := hb
        obtain ⟨b, off, rfl, hbB, hc⟩ := h.at_ hlt
        have h1 : (0 : Int) ≤ (k : Int) := by omega
        have h2 : (k : Int) < (n : Int) := by omega
        obtain ⟨x, hx⟩ : ∃ x, x = xs.getD k 0 := ⟨_, rfl⟩
        rw [← hx] at hc
        have hcx := RI.cellIn hc hb hbB hB
        have HV := hide (show ivs (zs.take (k + 1)) = ivs (zs.take k) ++ [iv (fxRelu x)] from by rw [take_one zs k (by rw [HZL.out]; exact hlt) 0, HZ.out, map_get _ _ _ (by rw [hl.out]; exact hlt), hx]; simp [ivs])
        clear hx hc h
        go_wp2_with (first | (go_at_call 141; refine (impl_Relu _ _).mono ?_; rintro e w' ⟨rfl, rfl⟩) | (at_builtin; refine wpList_push1 (wr) (iv (fxRelu x)) rfl (.tmp 16) (.tmp 19) _ rfl w.heap.size 3 _ 8 Try.underlying25 int_info rfl u3 _ _ rfl hown rfl rfl (by omega) (by omega) hsz ?_; intro v' w1 hown' hgr _))
        go_roundw
        case rel => exact ⟨k + 1, by omega, by go_num, by rw [HV.out]; exact hown', hb.grown hgr hsz (fun q hq => (hown.lt q hq).1)⟩
        case measure => simp [intOf]; omega
      · obtain rfl : k = n := by omega
        clear h
        have HP := hide hv
        clear hv
        go_wp2
        go_ret
        exact gives (NewI.own hown hb (by rw [vRelu, if_pos HP.out, List.take_of_length_le (by rw [HZL.out]; omega), HZ.out]))
  | false =>
    go_enter Try.func96, Try.ntmps96
    go_wp2_with (go_at_call 137; refine (impl_VecOk _ h hn).mono ?_; rintro e w' ⟨rfl, rfl⟩)
    go_ret
    exact gives (NewI.nil (by rw [vRelu, hv]; rfl))
theorem spec_VecRelu {B n c : Nat} {A : Option Addr} {xs : List Int} (w : World) (h : RI w B A n c xs) (hB : B ≤ w.heap.size) (hn : n ≤ 1048576) :
    Calls Try.prog 88 #[.slice A n c] w (Gives (NI w (vRelu xs))) := by
  have hl := hide h.1
  cases hv : okV xs with
  | true =>
    have hpl := okV_len hv
    obtain ⟨zs, hz⟩ : ∃ zs, zs = xs.map fxRelu := ⟨_, rfl⟩
    have hzl : zs.length = n := by rw [hz, List.length_map, h.1]
    have HZ := hide hz
    have HZL := hide hzl
    have hn6 : n ≤ 6 := by rw [← h.1]; exact hpl.2
    clear hz hzl hpl
    go_enter Try.func88, Try.ntmps88
    go_wp2_with fail
    go_loopw [3, 4] (fun v i wr => ∃ k : Nat, k ≤ n ∧ i = .int .i64 (k : Int) ∧ wr.ownsRow w.heap.size 3 1 v k (ivs (zs.take k)) ∧ Below w.heap.size w wr)
      (fun _ i _ => n - (intOf i).toNat)
    case atStart => exact ⟨0, Nat.zero_le _, rfl, World.ownsRow_made w #[] 0 (Nat.le_refl _) (by decide) rfl, (Below.refl _ _).alloc (Nat.le_refl _) _⟩
    case round =>
      obtain ⟨k, hk, rfl, hown, hb⟩ := hrel
      have hsz := hb.size
      by_cases hlt : k < n
      · have HVO := hide (spec_VecOk wr ((h.more hB).below hb) hn)
        obtain ⟨b, off, rfl, hbB, hc⟩ := h.at_ hlt
        have h1 : (0 : Int) ≤ (k : Int) := by omega
        have h2 : (k : Int) < (n : Int) := by omega
        obtain ⟨x, hx⟩ : ∃ x, x = xs.getD k 0 := ⟨_, rfl⟩
        rw [← hx] at hc
        have hcx := RI.cellIn hc hb hbB hB
        have HV := hide (show ivs (zs.take (k + 1)) = ivs (zs.take k) ++ [iv (fxRelu x)] from by rw [take_one zs k (by rw [HZL.out]; exact hlt) 0, HZ.out, map_get _ _ _ (by rw [hl.out]; exact hlt), hx]; simp [ivs])
        clear hx hc h
        go_wp2_with (first | (go_at_call 62; refine HVO.out.mono ?_; rintro e w' ⟨rfl, rfl⟩) | (go_at_call 134; refine (spec_Relu _ _).mono ?_; rintro e w' ⟨rfl, rfl⟩) | (at_builtin; refine wpList_push1 (wr) (iv (fxRelu x)) rfl (.tmp 16) (.tmp 22) _ rfl w.heap.size 3 _ 8 Try.underlying25 int_info rfl u3 _ _ rfl hown rfl rfl (by omega) (by omega) hsz ?_; intro v' w1 hown' hgr _))
        go_roundw
        case rel => exact ⟨k + 1, by omega, by go_num, by rw [HV.out]; exact hown', hb.grown hgr hsz (fun q hq => (hown.lt q hq).1)⟩
        case measure => simp [intOf]; omega
      · obtain rfl : k = n := by omega
        clear h
        have HP := hide hv
        clear hv
        go_wp2
        go_ret
        exact gives (NewI.own hown hb (by rw [vRelu, if_pos HP.out, List.take_of_length_le (by rw [HZL.out]; omega), HZ.out]))
  | false =>
    go_enter Try.func88, Try.ntmps88
    go_wp2_with fail
    go_loopw [3, 4] (fun v i wr => i = .int .i64 0 ∧ v = .slice (some ⟨w.heap.size, 0, none⟩) 0 0 ∧ wr = w.alloc (.cells #[] 3)) (fun _ _ _ => 0)
    case atStart => exact ⟨rfl, rfl, rfl⟩
    case round =>
      obtain ⟨rfl, rfl, rfl⟩ := hrel
      have hb : Below w.heap.size w (w.alloc (.cells #[] 3)) := (Below.refl _ _).alloc (Nat.le_refl _) _
      have HVO := hide (spec_VecOk (w.alloc (.cells #[] 3)) ((h.more hB).below hb) hn)
      clear h
      have hfin : Gives (NI w (vRelu xs)) (.returned (.slice (some ⟨w.heap.size, 0, none⟩) 0 0)) (w.alloc (.cells #[] 3)) :=
        gives (NewI.own (xs := []) (World.ownsRow_made w #[] 0 (Nat.le_refl _) (by decide) rfl) hb (by rw [vRelu, hv]; rfl))
      have HF := hide hfin
      clear hfin
      by_cases hlt : 0 < n
      · go_wp2_with (go_at_call 62; refine HVO.out.mono ?_; rintro e w' ⟨rfl, rfl⟩)
        go_ret
        exact HF.out
      · go_wp2_with fail
        go_ret
        exact HF.out
theorem impl_VecMask {B n c B' n' c' : Nat} {A A' : Option Addr} {xs ys : List Int} (w : World) (h : RI w B A n c xs) (h' : RI w B' A' n' c' ys) (hB : B ≤ w.heap.size) (hB' : B' ≤ w.heap.size) (hn : n ≤ 1048576) (hn' : n' ≤ 1048576) :
    Calls Try.prog 105 #[.slice A n c, .slice A' n' c'] w (Gives (NI w (vMask xs ys))) := by
  have hl := hide h.1
  have hl' := hide h'.1
  cases hp : pairV xs ys with
  | true =>
    have hpl := pairV_len hp
    have hnn : n = n' := by rw [← h.1, ← h'.1]; exact hpl.2.2
    subst hnn
    obtain ⟨zs, hz⟩ : ∃ zs, zs = List.zipWith maskF xs ys := ⟨_, rfl⟩
    have hzl : zs.length = n := by rw [hz, zip_len _ hpl.2.2, h.1]
    have HZ := hide hz
    have HZL := hide hzl
    have hn6 : n ≤ 6 := by rw [← h.1]; exact hpl.2.1
    clear hz hzl hpl
    go_enter Try.func105, Try.ntmps105
    go_wp2_with (go_at_call 130; refine (impl_pairOk _ h h' hn hn').mono ?_; rintro e w' ⟨rfl, rfl⟩)
    go_loopw [5, 14] (fun v i wr => ∃ k : Nat, k ≤ n ∧ i = .int .i64 (k : Int) ∧ wr.ownsRow w.heap.size 3 1 v k (ivs (zs.take k)) ∧ Below w.heap.size w wr)
      (fun _ i _ => n - (intOf i).toNat)
    case atStart => exact ⟨0, Nat.zero_le _, rfl, World.ownsRow_made w #[] 0 (Nat.le_refl _) (by decide) rfl, (Below.refl _ _).alloc (Nat.le_refl _) _⟩
    case round =>
      obtain ⟨k, hk, rfl, hown, hb⟩ := hrel
      have hsz := hb.size
      by_cases hlt : k < n
      · have _hz := hb
        obtain ⟨b, off, rfl, hbB, hc⟩ := h.at_ hlt
        obtain ⟨b', off', rfl, hbB', hc'⟩ := h'.at_ hlt
        have h1 : (0 : Int) ≤ (k : Int) := by omega
        have h2 : (k : Int) < (n : Int) := by omega
        obtain ⟨x, hx⟩ : ∃ x, x = xs.getD k 0 := ⟨_, rfl⟩
        obtain ⟨y, hy⟩ : ∃ y, y = ys.getD k 0 := ⟨_, rfl⟩
        rw [← hx] at hc
        rw [← hy] at hc'
        have hcx := RI.cellIn hc hb hbB hB
        have hcy := RI.cellIn hc' hb hbB' hB'
        have HV := hide (show ivs (zs.take (k + 1)) = ivs (zs.take k) ++ [iv (maskF x y)] from by rw [take_one zs k (by rw [HZL.out]; exact hlt) 0, HZ.out, zip_get _ _ _ _ (by rw [hl.out]; exact hlt) (by rw [hl'.out]; exact hlt), hx, hy]; simp [ivs])
        clear hx hy hc hc' h h'
        by_cases hpos : 0 < x
        · have HM := hide (show iv (maskF x y) = iv y from by rw [maskF, if_pos hpos])
          go_wp2_with (first | (at_builtin; refine wpList_push1 (wr) (iv (y)) rfl (.tmp 22) (.tmp 27) _ rfl w.heap.size 3 _ 8 Try.underlying25 int_info rfl u5 _ _ rfl hown rfl rfl (by omega) (by omega) hsz ?_; intro v' w1 hown' hgr _))
          go_roundw
          case rel => exact ⟨k + 1, by omega, by go_num, by rw [HV.out, HM.out]; exact hown', hb.grown hgr hsz (fun q hq => (hown.lt q hq).1)⟩
          case measure => simp [intOf]; omega
        · have HM := hide (show iv (maskF x y) = iv 0 from by rw [maskF, if_neg hpos])
          go_wp2_with (first | (at_builtin; refine wpList_push1 (wr) (iv (0)) rfl (.tmp 29) (.tmp 30) _ rfl w.heap.size 3 _ 8 Try.underlying25 int_info rfl u5 _ _ rfl hown rfl rfl (by omega) (by omega) hsz ?_; intro v' w1 hown' hgr _))
          go_roundw
          case rel => exact ⟨k + 1, by omega, by go_num, by rw [HV.out, HM.out]; exact hown', hb.grown hgr hsz (fun q hq => (hown.lt q hq).1)⟩
          case measure => simp [intOf]; omega
      · obtain rfl : k = n := by omega
        clear h h'
        have HP := hide hp
        clear hp
        go_wp2
        go_ret
        exact gives (NewI.own hown hb (by rw [vMask, if_pos HP.out, List.take_of_length_le (by rw [HZL.out]; omega), HZ.out]))
  | false =>
    go_enter Try.func105, Try.ntmps105
    go_wp2_with (go_at_call 130; refine (impl_pairOk _ h h' hn hn').mono ?_; rintro e w' ⟨rfl, rfl⟩)
    go_ret
    exact gives (NewI.nil (by rw [vMask, hp]; rfl))
theorem spec_VecMask {B n c B' n' c' : Nat} {A A' : Option Addr} {xs ys : List Int} (w : World) (h : RI w B A n c xs) (h' : RI w B' A' n' c' ys) (hB : B ≤ w.heap.size) (hB' : B' ≤ w.heap.size) (hn : n ≤ 1048576) (hn' : n' ≤ 1048576) :
    Calls Try.prog 97 #[.slice A n c, .slice A' n' c'] w (Gives (NI w (vMask xs ys))) := by
  have hl := hide h.1
  have hl' := hide h'.1
  cases hp : pairV xs ys with
  | true =>
    have hpl := pairV_len hp
    have hnn : n = n' := by rw [← h.1, ← h'.1]; exact hpl.2.2
    subst hnn
    obtain ⟨zs, hz⟩ : ∃ zs, zs = List.zipWith maskF xs ys := ⟨_, rfl⟩
    have hzl : zs.length = n := by rw [hz, zip_len _ hpl.2.2, h.1]
    have HZ := hide hz
    have HZL := hide hzl
    have hn6 : n ≤ 6 := by rw [← h.1]; exact hpl.2.1
    clear hz hzl hpl
    go_enter Try.func97, Try.ntmps97
    go_wp2_with fail
    go_loopw [5, 6] (fun v i wr => ∃ k : Nat, k ≤ n ∧ i = .int .i64 (k : Int) ∧ wr.ownsRow w.heap.size 3 1 v k (ivs (zs.take k)) ∧ Below w.heap.size w wr)
      (fun _ i _ => n - (intOf i).toNat)
    case atStart => exact ⟨0, Nat.zero_le _, rfl, World.ownsRow_made w #[] 0 (Nat.le_refl _) (by decide) rfl, (Below.refl _ _).alloc (Nat.le_refl _) _⟩
    case round =>
      obtain ⟨k, hk, rfl, hown, hb⟩ := hrel
      have hsz := hb.size
      by_cases hlt : k < n
      · have HP3 := hide (spec_l3Pair wr ((h.more hB).below hb) ((h'.more hB').below hb) hn hn')
        obtain ⟨b, off, rfl, hbB, hc⟩ := h.at_ hlt
        obtain ⟨b', off', rfl, hbB', hc'⟩ := h'.at_ hlt
        have h1 : (0 : Int) ≤ (k : Int) := by omega
        have h2 : (k : Int) < (n : Int) := by omega
        obtain ⟨x, hx⟩ : ∃ x, x = xs.getD k 0 := ⟨_, rfl⟩
        obtain ⟨y, hy⟩ : ∃ y, y = ys.getD k 0 := ⟨_, rfl⟩
        rw [← hx] at hc
        rw [← hy] at hc'
        have hcx := RI.cellIn hc hb hbB hB
        have hcy := RI.cellIn hc' hb hbB' hB'
        have HV := hide (show ivs (zs.take (k + 1)) = ivs (zs.take k) ++ [iv (maskF x y)] from by rw [take_one zs k (by rw [HZL.out]; exact hlt) 0, HZ.out, zip_get _ _ _ _ (by rw [hl.out]; exact hlt) (by rw [hl'.out]; exact hlt), hx, hy]; simp [ivs])
        clear hx hy hc hc' h h'
        by_cases hpos : 0 < x
        · have HM := hide (show iv (maskF x y) = iv y from by rw [maskF, if_pos hpos])
          go_wp2_with (first | (go_at_call 128; refine HP3.out.mono ?_; rintro e w' ⟨rfl, rfl⟩) | (at_builtin; refine wpList_push1 (wr) (iv (y)) rfl (.tmp 24) (.tmp 29) _ rfl w.heap.size 3 _ 8 Try.underlying25 int_info rfl u5 _ _ rfl hown rfl rfl (by omega) (by omega) hsz ?_; intro v' w1 hown' hgr _))
          go_roundw
          case rel => exact ⟨k + 1, by omega, by go_num, by rw [HV.out, HM.out]; exact hown', hb.grown hgr hsz (fun q hq => (hown.lt q hq).1)⟩
          case measure => simp [intOf]; omega
        · have HM := hide (show iv (maskF x y) = iv 0 from by rw [maskF, if_neg hpos])
          go_wp2_with (first | (go_at_call 128; refine HP3.out.mono ?_; rintro e w' ⟨rfl, rfl⟩) | (at_builtin; refine wpList_push1 (wr) (iv (0)) rfl (.tmp 31) (.tmp 32) _ rfl w.heap.size 3 _ 8 Try.underlying25 int_info rfl u5 _ _ rfl hown rfl rfl (by omega) (by omega) hsz ?_; intro v' w1 hown' hgr _))
          go_roundw
          case rel => exact ⟨k + 1, by omega, by go_num, by rw [HV.out, HM.out]; exact hown', hb.grown hgr hsz (fun q hq => (hown.lt q hq).1)⟩
          case measure => simp [intOf]; omega
      · obtain rfl : k = n := by omega
        clear h h'
        have HP := hide hp
        clear hp
        go_wp2
        go_ret
        exact gives (NewI.own hown hb (by rw [vMask, if_pos HP.out, List.take_of_length_le (by rw [HZL.out]; omega), HZ.out]))
  | false =>
    go_enter Try.func97, Try.ntmps97
    go_wp2_with fail
    go_loopw [5, 6] (fun v i wr => i = .int .i64 0 ∧ v = .slice (some ⟨w.heap.size, 0, none⟩) 0 0 ∧ wr = w.alloc (.cells #[] 3)) (fun _ _ _ => 0)
    case atStart => exact ⟨rfl, rfl, rfl⟩
    case round =>
      obtain ⟨rfl, rfl, rfl⟩ := hrel
      have hb : Below w.heap.size w (w.alloc (.cells #[] 3)) := (Below.refl _ _).alloc (Nat.le_refl _) _
      have HP3 := hide (spec_l3Pair (w.alloc (.cells #[] 3)) ((h.more hB).below hb) ((h'.more hB').below hb) hn hn')
      clear h h'
      have hfin : Gives (NI w (vMask xs ys)) (.returned (.slice (some ⟨w.heap.size, 0, none⟩) 0 0)) (w.alloc (.cells #[] 3)) :=
        gives (NewI.own (xs := []) (World.ownsRow_made w #[] 0 (Nat.le_refl _) (by decide) rfl) hb (by rw [vMask, hp]; rfl))
      have HF := hide hfin
      clear hfin
      by_cases hlt : 0 < n
      · go_wp2_with (go_at_call 128; refine HP3.out.mono ?_; rintro e w' ⟨rfl, rfl⟩)
        go_ret
        exact HF.out
      · go_wp2_with fail
        go_ret
        exact HF.out
theorem impl_VecDot {B n c B' n' c' : Nat} {A A' : Option Addr} {xs ys : List Int} (w : World) (h : RI w B A n c xs) (h' : RI w B' A' n' c' ys) (hn : n ≤ 1048576) (hn' : n' ≤ 1048576) :
    Calls Try.prog 104 #[.slice A n c, .slice A' n' c'] w (Quiet (.tuple #[.int .i64 (vDot xs ys), .bool (vDotS xs ys)]) w) := by
  have hl := hide h.1
  have hl' := hide h'.1
  cases hp : pairV xs ys with
  | true =>
    have hpl := pairV_len hp
    have hnn : n = n' := by rw [← h.1, ← h'.1]; exact hpl.2.2
    subst hnn
    have hn6 : n ≤ 6 := by rw [← h.1]; exact hpl.2.1
    clear hpl
    go_enter Try.func104, Try.ntmps104
    go_wp2_with (go_at_call 130; refine (impl_pairOk _ h h' hn hn').mono ?_; rintro e w' ⟨rfl, rfl⟩)
    go_loopw [6, 7, 19] (fun sv fl i wr => ∃ (k : Nat) (s : Int) (fb : Bool), k ≤ n ∧ i = .int .i64 (k : Int) ∧ sv = .int .i64 s ∧ fl = .bool fb ∧ Hid (dotGo 0 false (xs.take k) (ys.take k) = (s, fb)) ∧ ∃ m, wr = w.drewN m)
      (fun _ _ i _ => n - (intOf i).toNat)
    case atStart => exact ⟨0, 0, false, Nat.zero_le _, rfl, rfl, rfl, rfl, 0, rfl⟩
    case round =>
      obtain ⟨k, s, fb, hk, rfl, rfl, rfl, hd, m, rfl⟩ := hrel
      by_cases hlt : k < n
      · have _hz := hk
        obtain ⟨b, off, rfl, hbB, hcx⟩ := h.at_ hlt
        obtain ⟨b', off', rfl, hbB', hcy⟩ := h'.at_ hlt
        have h1 : (0 : Int) ≤ (k : Int) := by omega
        have h2 : (k : Int) < (n : Int) := by omega
        obtain ⟨x, hx⟩ : ∃ x, x = xs.getD k 0 := ⟨_, rfl⟩
        obtain ⟨y, hy⟩ : ∃ y, y = ys.getD k 0 := ⟨_, rfl⟩
        rw [← hx] at hcx
        rw [← hy] at hcy
        have HD := hide (show dotGo 0 false (xs.take (k + 1)) (ys.take (k + 1)) = (fxAdd s (fxMul x y), fb || fxMulS x y || fxAddS s (fxMul x y)) from by rw [dot_one xs ys k 0 false (by rw [hl.out]; exact hlt) (by rw [hl'.out]; exact hlt), hd.out, hx, hy])
        have HX := hide hx
        clear hx hy h h'
        obtain ⟨o1, ho1⟩ : ∃ o1, o1 = fxMulS x y := ⟨_, rfl⟩
        have HO := hide ho1
        have HMUL := hide (show ∀ W : World, Calls Try.prog 140 #[.int .i64 x, .int .i64 y] W fun e w' => e = .returned (.tuple #[.int .i64 (fxMul x y), .bool o1]) ∧ W = w' from fun W => by rw [ho1]; exact impl_FixMul x y W)
        clear ho1
        cases fb
        all_goals cases o1
        all_goals
          go_wp2
          go_quiet ((go_at_call 140; exact quietL2 (HMUL.out _)))
          go_wp2_with (go_at_call 112; refine (impl_FixAdd _ _ _).mono ?_; rintro e w' ⟨rfl, rfl⟩)
          go_roundw
          case rel => exact ⟨k + 1, _, _, by omega, by go_num, rfl, rfl, (show Hid (_ = _) from by show _ = _; rw [HD.out, ← HO.out]; rfl), m + nq, by first | rfl | rw [World.drewN_drewN]⟩
          case measure => simp [intOf]; omega
      · obtain rfl : k = n := by omega
        clear h h'
        have HP := hide hp
        clear hp
        go_wp2
        go_ret2
        have hd' := hd.out
        rw [List.take_of_length_le (by rw [hl.out]; omega), List.take_of_length_le (by rw [hl'.out]; omega)] at hd'
        exact ⟨rIB (by rw [vDot, if_pos HP.out, hd']) (by rw [vDotS, HP.out, hd']; rfl), m, rfl⟩
  | false =>
    have HF := hide (show Quiet (.tuple #[.int .i64 (vDot xs ys), .bool (vDotS xs ys)]) w (.returned (.tuple #[.int .i64 0, .bool false])) w from ⟨rIB (by rw [vDot, hp]; rfl) (by rw [vDotS, hp]; rfl), 0, rfl⟩)
    go_enter Try.func104, Try.ntmps104
    go_wp2_with (go_at_call 130; refine (impl_pairOk _ h h' hn hn').mono ?_; rintro e w' ⟨rfl, rfl⟩)
    go_ret2
    exact HF.out
theorem spec_VecDot {B n c B' n' c' : Nat} {A A' : Option Addr} {xs ys : List Int} (w : World) (h : RI w B A n c xs) (h' : RI w B' A' n' c' ys) (hn : n ≤ 1048576) (hn' : n' ≤ 1048576) :
    Calls Try.prog 98 #[.slice A n c, .slice A' n' c'] w (Quiet (.tuple #[.int .i64 (vDot xs ys), .bool (vDotS xs ys)]) w) := by
  have hl := hide h.1
  have hl' := hide h'.1
  cases hp : pairV xs ys with
  | true =>
    have hpl := pairV_len hp
    have hnn : n = n' := by rw [← h.1, ← h'.1]; exact hpl.2.2
    subst hnn
    have hn6 : n ≤ 6 := by rw [← h.1]; exact hpl.2.1
    clear hpl
    go_enter Try.func98, Try.ntmps98
    go_wp2_with fail
    go_loopw [6, 7, 8] (fun sv fl i wr => ∃ (k : Nat) (s : Int) (fb : Bool), k ≤ n ∧ i = .int .i64 (k : Int) ∧ sv = .int .i64 s ∧ fl = .bool fb ∧ Hid (dotGo 0 false (xs.take k) (ys.take k) = (s, fb)) ∧ ∃ m, wr = w.drewN m)
      (fun _ _ i _ => n - (intOf i).toNat)
    case atStart => exact ⟨0, 0, false, Nat.zero_le _, rfl, rfl, rfl, rfl, 0, rfl⟩
    case round =>
      obtain ⟨k, s, fb, hk, rfl, rfl, rfl, hd, m, rfl⟩ := hrel
      by_cases hlt : k < n
      · have HP3 := hide (spec_l3Pair (w.drewN m) (h.drewN m) (h'.drewN m) hn hn')
        obtain ⟨b, off, rfl, hbB, hcx⟩ := h.at_ hlt
        obtain ⟨b', off', rfl, hbB', hcy⟩ := h'.at_ hlt
        have h1 : (0 : Int) ≤ (k : Int) := by omega
        have h2 : (k : Int) < (n : Int) := by omega
        obtain ⟨x, hx⟩ : ∃ x, x = xs.getD k 0 := ⟨_, rfl⟩
        obtain ⟨y, hy⟩ : ∃ y, y = ys.getD k 0 := ⟨_, rfl⟩
        rw [← hx] at hcx
        rw [← hy] at hcy
        have HD := hide (show dotGo 0 false (xs.take (k + 1)) (ys.take (k + 1)) = (fxAdd s (fxMul x y), fb || fxMulS x y || fxAddS s (fxMul x y)) from by rw [dot_one xs ys k 0 false (by rw [hl.out]; exact hlt) (by rw [hl'.out]; exact hlt), hd.out, hx, hy])
        have HX := hide hx
        clear hx hy h h'
        obtain ⟨o1, ho1⟩ : ∃ o1, o1 = fxMulS x y := ⟨_, rfl⟩
        have HO := hide ho1
        have HMUL := hide (show ∀ W : World, Calls Try.prog 135 #[.int .i64 x, .int .i64 y] W fun e w' => e = .returned (.tuple #[.int .i64 (fxMul x y), .bool o1]) ∧ W = w' from fun W => by rw [ho1]; exact spec_FixMul x y W)
        clear ho1
        cases fb
        all_goals cases o1
        all_goals
          go_wp2_with (go_at_call 128; refine HP3.out.mono ?_; rintro e w' ⟨rfl, rfl⟩)
          go_quiet ((go_at_call 135; exact quietL2 (HMUL.out _)))
          go_wp2_with (go_at_call 110; refine (spec_FixAdd _ _ _).mono ?_; rintro e w' ⟨rfl, rfl⟩)
          go_roundw
          case rel => exact ⟨k + 1, _, _, by omega, by go_num, rfl, rfl, (show Hid (_ = _) from by show _ = _; rw [HD.out, ← HO.out]; rfl), m + nq, by first | rfl | rw [World.drewN_drewN]⟩
          case measure => simp [intOf]; omega
      · obtain rfl : k = n := by omega
        clear h h'
        have HP := hide hp
        clear hp
        go_wp2
        go_ret2
        have hd' := hd.out
        rw [List.take_of_length_le (by rw [hl.out]; omega), List.take_of_length_le (by rw [hl'.out]; omega)] at hd'
        exact ⟨rIB (by rw [vDot, if_pos HP.out, hd']) (by rw [vDotS, HP.out, hd']; rfl), m, rfl⟩
  | false =>
    have HF := hide (show Quiet (.tuple #[.int .i64 (vDot xs ys), .bool (vDotS xs ys)]) w (.returned (.tuple #[.int .i64 0, .bool false])) w from ⟨rIB (by rw [vDot, hp]; rfl) (by rw [vDotS, hp]; rfl), 0, rfl⟩)
    go_enter Try.func98, Try.ntmps98
    go_wp2_with fail
    go_loop [6, 7, 8] (fun sv fl i => i = .int .i64 0 ∧ fl = .bool false ∧ sv = .int .i64 0) (fun _ _ _ => 0)
    case atStart => exact ⟨rfl, rfl, rfl⟩
    case round =>
      obtain ⟨rfl, rfl, rfl⟩ := hrel
      have HP3 := hide (spec_l3Pair w h h' hn hn')
      clear h h'
      by_cases hlt : 0 < n
      · go_wp2_with (go_at_call 128; refine HP3.out.mono ?_; rintro e w' ⟨rfl, rfl⟩)
        go_ret2
        exact HF.out
      · go_wp2_with fail
        go_ret2
        exact HF.out
theorem impl_SameVec {B n c B' n' c' : Nat} {A A' : Option Addr} {xs ys : List Int} (w : World) (h : RI w B A n c xs) (h' : RI w B' A' n' c' ys) (hn : n ≤ 1048576) (hn' : n' ≤ 1048576) :
    Calls Try.prog 151 #[.slice A n c, .slice A' n' c'] w (Quiet (.bool (decide (xs = ys))) w) := by
  have hl := hide h.1
  have hl' := hide h'.1
  by_cases hne : n = n'
  · subst hne
    go_enter Try.func151, Try.ntmps151
    go_wp2
    go_loopw [13] (fun i wr => ∃ k : Nat, k ≤ n ∧ i = .int .i64 (k : Int) ∧ Hid (∀ j, j < k → xs.getD j 0 = ys.getD j 0) ∧ ∃ m, wr = w.drewN m)
      (fun i _ => n - (intOf i).toNat)
    case atStart => exact ⟨0, Nat.zero_le _, rfl, fun j hj => absurd hj (by omega), 0, rfl⟩
    case round =>
      obtain ⟨k, hk, rfl, heq, m, rfl⟩ := hrel
      by_cases hlt : k < n
      · obtain ⟨b, off, rfl, hbB, hc⟩ := h.at_ hlt
        obtain ⟨b', off', rfl, hbB', hc'⟩ := h'.at_ hlt
        have h1 : (0 : Int) ≤ (k : Int) := by omega
        have h2 : (k : Int) < (n : Int) := by omega
        obtain ⟨x, hx⟩ : ∃ x, x = xs.getD k 0 := ⟨_, rfl⟩
        obtain ⟨y, hy⟩ : ∃ y, y = ys.getD k 0 := ⟨_, rfl⟩
        rw [← hx] at hc
        rw [← hy] at hc'
        have HX := hide hx
        have HY := hide hy
        clear hx hy h h'
        by_cases hxy : x = y
        · have hb : (x != y) = false := by simp [hxy]
          have HXY := hide hxy
          clear hxy
          go_wp2
          go_quiet (fail)
          go_wp2
          go_roundw
          case rel => exact ⟨k + 1, by omega, by go_num, fun j hj => by
            by_cases hjk : j < k
            · exact heq.out j hjk
            · obtain rfl : j = k := by omega
              rw [← HX.out, ← HY.out]; exact HXY.out, _, rfl⟩
          case measure => simp [intOf]; omega
        · have hb : (x != y) = true := by simp [hxy]
          have HXY := hide hxy
          clear hxy
          go_wp2
          go_quiet (fail)
          go_wp2
          go_ret
          exact ⟨rB (eq_upto_no (by rw [← HX.out, ← HY.out]; exact HXY.out)).symm, m + nq, by first | rfl | rw [World.drewN_drewN]⟩
      · obtain rfl : k = n := by omega
        go_wp2
        go_ret
        exact ⟨rB (eq_upto_all hl.out hl'.out heq.out).symm, _, rfl⟩
  · have hd : decide (xs = ys) = false := by
      rw [decide_eq_false_iff_not]; rintro rfl; exact hne (h.1.symm.trans h'.1)
    have hb : ((n : Int) != (n' : Int)) = true := by simp; omega
    have HD := hide hd
    clear hd hne
    go_enter Try.func151, Try.ntmps151
    go_wp2
    go_ret
    exact ⟨rB HD.out.symm, 0, rfl⟩
theorem spec_SameVec {B n c B' n' c' : Nat} {A A' : Option Addr} {xs ys : List Int} (w : World) (h : RI w B A n c xs) (h' : RI w B' A' n' c' ys) (hn : n ≤ 1048576) (hn' : n' ≤ 1048576) :
    Calls Try.prog 150 #[.slice A n c, .slice A' n' c'] w (Quiet (.bool (decide (xs = ys))) w) := by
  have hl := hide h.1
  have hl' := hide h'.1
  by_cases hne : n = n'
  · subst hne
    go_enter Try.func150, Try.ntmps150
    go_wp2
    go_loopw [5] (fun i wr => ∃ k : Nat, k ≤ n ∧ i = .int .i64 (k : Int) ∧ Hid (∀ j, j < k → xs.getD j 0 = ys.getD j 0) ∧ ∃ m, wr = w.drewN m)
      (fun i _ => n - (intOf i).toNat)
    case atStart => exact ⟨0, Nat.zero_le _, rfl, fun j hj => absurd hj (by omega), 0, rfl⟩
    case round =>
      obtain ⟨k, hk, rfl, heq, m, rfl⟩ := hrel
      by_cases hlt : k < n
      · obtain ⟨b, off, rfl, hbB, hc⟩ := h.at_ hlt
        obtain ⟨b', off', rfl, hbB', hc'⟩ := h'.at_ hlt
        have h1 : (0 : Int) ≤ (k : Int) := by omega
        have h2 : (k : Int) < (n : Int) := by omega
        obtain ⟨x, hx⟩ : ∃ x, x = xs.getD k 0 := ⟨_, rfl⟩
        obtain ⟨y, hy⟩ : ∃ y, y = ys.getD k 0 := ⟨_, rfl⟩
        rw [← hx] at hc
        rw [← hy] at hc'
        have HX := hide hx
        have HY := hide hy
        clear hx hy h h'
        by_cases hxy : x = y
        · have hb : (x != y) = false := by simp [hxy]
          have HXY := hide hxy
          clear hxy
          go_wp2
          go_quiet (fail)
          go_wp2
          go_roundw
          case rel => exact ⟨k + 1, by omega, by go_num, fun j hj => by
            by_cases hjk : j < k
            · exact heq.out j hjk
            · obtain rfl : j = k := by omega
              rw [← HX.out, ← HY.out]; exact HXY.out, _, rfl⟩
          case measure => simp [intOf]; omega
        · have hb : (x != y) = true := by simp [hxy]
          have HXY := hide hxy
          clear hxy
          go_wp2
          go_quiet (fail)
          go_wp2
          go_ret
          exact ⟨rB (eq_upto_no (by rw [← HX.out, ← HY.out]; exact HXY.out)).symm, m + nq, by first | rfl | rw [World.drewN_drewN]⟩
      · obtain rfl : k = n := by omega
        go_wp2
        go_ret
        exact ⟨rB (eq_upto_all hl.out hl'.out heq.out).symm, _, rfl⟩
  · have hd : decide (xs = ys) = false := by
      rw [decide_eq_false_iff_not]; rintro rfl; exact hne (h.1.symm.trans h'.1)
    have hb : ((n : Int) != (n' : Int)) = true := by simp; omega
    have HD := hide hd
    clear hd hne
    go_enter Try.func150, Try.ntmps150
    go_wp2
    go_ret
    exact ⟨rB HD.out.symm, 0, rfl⟩
end Go.Proofs.Ytehfglfbnjdcoaa
