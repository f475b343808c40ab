/-
  The contracts of the functions on matrices.
-/
import Derived.Test.YtehfglfbnjdcoaaProg
import Derived.Test.YtehfglfbnjdcoaaPlainM
import Derived.Test.YtehfglfbnjdcoaaVec2
import Derived.WalkKit
namespace Go.Proofs.Ytehfglfbnjdcoaa
open Go.RowKit
set_option maxRecDepth 100000

abbrev mv (r c : Int) (A : Option Addr) (n cap : Nat) : Value := .agg #[.int .i64 r, .int .i64 c, .slice A n cap]

theorem impl_MatOk {B n cap : Nat} {A : Option Addr} {xs : List Int} (r c : Int) (w : World) (h : RI w B A n cap xs) (hB : B ≤ w.heap.size) (hn : n ≤ 1048576) :
    Calls Try.prog 138 #[mv r c A n cap] w fun e w' => e = .returned (.bool (okM r c xs)) ∧ Below w.heap.size w w' := by
  have hl := hide h.1
  have hb : Below w.heap.size w (w.alloc (.cells #[.int .i64 r, .int .i64 c, .slice A n cap] 113)) := (Below.refl _ _).alloc (Nat.le_refl _) _
  by_cases h1 : r < 1
  · go_enter Try.func138, Try.ntmps138
    go_wp2_with fail
    go_ret
    exact ⟨rB (by simp [okM]; omega), hb⟩
  by_cases h2 : 6 < r
  · go_enter Try.func138, Try.ntmps138
    go_wp2_with fail
    go_ret
    exact ⟨rB (by simp [okM]; omega), hb⟩
  by_cases h3 : c < 1
  · go_enter Try.func138, Try.ntmps138
    go_wp2_with fail
    go_ret
    exact ⟨rB (by simp [okM]; omega), hb⟩
  by_cases h4 : 6 < c
  · go_enter Try.func138, Try.ntmps138
    go_wp2_with fail
    go_ret
    exact ⟨rB (by simp [okM]; omega), hb⟩
  obtain ⟨m, hm⟩ : ∃ m, r * c = m := ⟨_, rfl⟩
  have hm1 : 1 ≤ m ∧ m ≤ 36 := hm ▸ mul36 (by omega) (by omega) (by omega) (by omega)
  have hok : okM r c xs = (decide ((n : Int) = m) && xs.all fxOk) := by
    rw [okM, decide_eq_true (show 1 ≤ r by omega), decide_eq_true (show r ≤ 6 by omega), decide_eq_true (show 1 ≤ c by omega), decide_eq_true (show c ≤ 6 by omega), hm, hl.out]; simp
  have HOK := hide hok
  clear hok
  by_cases h5 : (n : Int) = m
  · have h5' : ((n : Int) == m) = true := by simp [h5]
    have H5 := hide h5
    clear h5
    go_enter Try.func138, Try.ntmps138
    go_wp2_with (go_at_call 136; refine (impl_allFix _ (h.below (hb.mono hB)) hn).mono ?_; rintro e w' ⟨rfl, rfl⟩)
    go_ret
    exact ⟨rB (by rw [HOK.out, H5.out]; simp), hb⟩
  · have h5' : ((n : Int) == m) = false := by simp [h5]
    have H5 := hide h5
    clear h5
    go_enter Try.func138, Try.ntmps138
    go_wp2_with fail
    go_ret
    exact ⟨rB (by rw [HOK.out, decide_eq_false H5.out]; simp), hb⟩
theorem spec_MatOk {B n cap : Nat} {A : Option Addr} {xs : List Int} (r c : Int) (w : World) (h : RI w B A n cap xs) (hB : B ≤ w.heap.size) (hn : n ≤ 1048576) :
    Calls Try.prog 132 #[mv r c A n cap] w fun e w' => e = .returned (.bool (okM r c xs)) ∧ Below w.heap.size w w' := by
  have hl := hide h.1
  have hb : Below w.heap.size w (w.alloc (.cells #[.int .i64 r, .int .i64 c, .slice A n cap] 113)) := (Below.refl _ _).alloc (Nat.le_refl _) _
  by_cases h1 : 1 ≤ r ∧ r ≤ 6
  case neg =>
    go_enter Try.func132, Try.ntmps132
    go_wp2_with fail
    refine (spec_l1In_no _ _ _ _ (by omega)).mono ?_
    rintro e w' ⟨rfl, rfl⟩
    go_wp2_with fail
    go_ret
    exact ⟨rB (by simp [okM]; omega), hb⟩
  by_cases h3 : 1 ≤ c ∧ c ≤ 6
  case neg =>
    go_enter Try.func132, Try.ntmps132
    go_wp2_with fail
    refine (spec_l1In_yes _ _ _ _ h1.1 h1.2).mono ?_
    rintro e w' ⟨rfl, rfl⟩
    go_wp2_with fail
    refine (spec_l1In_no _ _ _ _ (by omega)).mono ?_
    rintro e w' ⟨rfl, rfl⟩
    go_wp2_with fail
    go_ret
    exact ⟨rB (by simp [okM]; omega), hb⟩
  obtain ⟨m, hm⟩ : ∃ m, r * c = m := ⟨_, rfl⟩
  have hm1 : 1 ≤ m ∧ m ≤ 36 := hm ▸ mul36 h1.1 h1.2 h3.1 h3.2
  have hok : okM r c xs = (decide ((n : Int) = m) && xs.all fxOk) := by
    rw [okM, decide_eq_true h1.1, decide_eq_true h1.2, decide_eq_true h3.1, decide_eq_true h3.2, hm, hl.out]; simp
  have HOK := hide hok
  clear hok
  by_cases h5 : (n : Int) = m
  · have h5' : ((n : Int) != m) = false := by simp [h5]
    have H5 := hide h5
    have hn36 : n ≤ 36 := by omega
    clear h5
    go_enter Try.func132, Try.ntmps132
    go_wp2_with fail
    refine (spec_l1In_yes _ _ _ _ h1.1 h1.2).mono ?_
    rintro e w' ⟨rfl, rfl⟩
    go_wp2_with fail
    refine (spec_l1In_yes _ _ _ _ h3.1 h3.2).mono ?_
    rintro e w' ⟨rfl, rfl⟩
    go_wp2_with fail
    go_loop [3] (fun i => ∃ k : Nat, k ≤ n ∧ i = .int .i64 (k : Int) ∧ Hid (∀ j, j < k → fxOk (xs.getD j 0) = true)) (fun i => n - (intOf i).toNat)
    case atStart => exact ⟨0, Nat.zero_le _, rfl, fun j hj => absurd hj (by omega)⟩
    case round =>
      obtain ⟨k, hk, rfl, hall⟩ := hrel
      by_cases hlt : k < n
      · obtain ⟨b, off, rfl, hbB, hc⟩ := h.at_ hlt
        obtain ⟨x, hx⟩ : ∃ x, x = xs.getD k 0 := ⟨_, rfl⟩
        rw [← hx] at hc
        have HX := hide hx
        have hcx := RI.cellIn hc hb hbB hB
        clear hx h hc
        cases hf : fxOk x with
        | true =>
          go_wp2_with (go_at_call 125; refine (spec_FixOk _ _).mono ?_; rintro e w' ⟨rfl, rfl⟩)
          go_round
          case rel => exact ⟨k + 1, by omega, by go_num, fun j hj => by
            by_cases hjk : j < k
            · exact hall.out j hjk
            · obtain rfl : j = k := by omega
              rw [← HX.out]; exact hf⟩
          case measure => simp [intOf]; omega
        | false =>
          go_wp2_with (go_at_call 125; refine (spec_FixOk _ _).mono ?_; rintro e w' ⟨rfl, rfl⟩)
          go_ret
          exact ⟨rB (by have := all_no (by rw [hl.out]; exact hlt) (show fxOk (xs.getD k 0) = false from by rw [← HX.out]; exact hf); rw [HOK.out, this]; simp), hb⟩
      · obtain rfl : k = n := by omega
        clear h
        go_wp2_with fail
        go_ret
        exact ⟨rB (by have := all_upto hl.out hall.out; rw [HOK.out, this, decide_eq_true H5.out]; rfl), hb⟩
  · have h5' : ((n : Int) != m) = true := by simp [h5]
    have H5 := hide h5
    clear h5
    go_enter Try.func132, Try.ntmps132
    go_wp2_with fail
    refine (spec_l1In_yes _ _ _ _ h1.1 h1.2).mono ?_
    rintro e w' ⟨rfl, rfl⟩
    go_wp2_with fail
    refine (spec_l1In_yes _ _ _ _ h3.1 h3.2).mono ?_
    rintro e w' ⟨rfl, rfl⟩
    go_wp2_with fail
    go_ret
    exact ⟨rB (by rw [HOK.out, decide_eq_false H5.out]; simp), hb⟩
/-- a row of a matrix, as a slice of its numbers -/
theorem RI.row {w : World} {B n cap : Nat} {A : Option Addr} {xs : List Int} {R C k : Nat} (h : RI w B A n cap xs) (hx : xs.length = R * C) (hk : k < R) (hC : 1 ≤ C) :
    ∃ b off, A = some ⟨b, off, none⟩ ∧ b < B ∧ (k + 1) * C ≤ n ∧ n ≤ cap ∧ k * C + C = (k + 1) * C ∧ RI w B (some ⟨b, off + k * C, none⟩) C (cap - k * C) (rowK C xs k) := by
  have h1 : (k + 1) * C ≤ R * C := Nat.mul_le_mul_right C hk
  have h2 : (k + 1) * C = k * C + C := Nat.succ_mul k C
  obtain ⟨b, off, hA, hb, hc⟩ := h.2.2 (by have := h.1; omega)
  have hl := h.1
  refine ⟨b, off, hA, hb, by omega, h.2.1, h2.symm, rowK_len hx hk, by have := h.2.1; omega, fun _ => ⟨b, off + k * C, rfl, hb, fun j hj => ?_⟩⟩
  rw [Nat.add_assoc, hc (k * C + j) (by omega), rowK_get j hj]
set_option maxHeartbeats 4000000 in
theorem impl_MatVec {B n cap B' n' c' : Nat} {A A' : Option Addr} {xs ys : List Int} (r c : Int) (w : World) (h : RI w B A n cap xs) (h' : RI w B' A' n' c' ys) (hB : B ≤ w.heap.size) (hB' : B' ≤ w.heap.size) (hn : n ≤ 1048576) (hn' : n' ≤ 1048576) :
    Calls Try.prog 92 #[mv r c A n cap, .slice A' n' c'] w (GivesB (mVecS r c xs ys) (NI w (mVec r c xs ys))) := by
  have hl := hide h.1
  have hl' := hide h'.1
  obtain ⟨wb, hwb⟩ : ∃ wb, wb = w.alloc (.cells #[.int .i64 r, .int .i64 c, .slice A n cap] 113) := ⟨_, rfl⟩
  have hb0 : Below w.heap.size w wb := hwb ▸ (Below.refl _ _).alloc (Nat.le_refl _) _
  have x0 : wb.cell? ⟨w.heap.size, 0, none⟩ = some (.int .i64 r) := by rw [hwb]; simp
  have x1 : wb.cell? ⟨w.heap.size, 1, none⟩ = some (.int .i64 c) := by rw [hwb]; simp
  have x2 : wb.cell? ⟨w.heap.size, 2, none⟩ = some (.slice A n cap) := by rw [hwb]; simp
  have HOK := hide (impl_MatOk r c wb (h.below (hb0.mono hB)) (by have := hb0.size; omega) hn)
  have HVO := hide fun (w1 : World) (hb1 : Below w.heap.size w w1) => impl_vecOf c w1 (h'.below (hb1.mono hB')) hn'
  cases hm : okM r c xs with
  | false =>
    rw [hm] at HOK
    have HF := hide (show ∀ v w1, w1.ownsRow w.heap.size 3 1 v 0 (ivs []) → Below w.heap.size w w1 → GivesB (mVecS r c xs ys) (NI w (mVec r c xs ys)) (.returned (.tuple #[v, .bool false])) w1 from fun v w1 ho hb1 =>
      givesB (by rw [mVecS, mvOk, hm]; rfl) (NewI.own ho hb1 (by rw [mVec, mvOk, hm]; rfl)))
    clear h h' HVO hm x0 x1 x2
    subst hwb
    go_enter Try.func92, Try.ntmps92
    go_wp2_with fail
    refine HOK.out.mono ?_
    rintro e w1 ⟨rfl, hb⟩
    go_wp2_with fail
    go_ret2
    exact HF.out _ _ (World.ownsRow_nil _ _ _ _) (hb0.trans (hb.mono hb0.size))
  | true =>
    rw [hm] at HOK
    obtain ⟨R, C, rfl, rfl, hR1, hR6, hC1, hC6, hxl, _⟩ := okM_spec hm
    by_cases hv : okV ys = true ∧ (ys.length : Int) = (C : Int)
    case neg =>
      have hvo : (okV ys && decide ((ys.length : Int) = (C : Int))) = false := by
        rw [Bool.and_eq_false_iff]
        rcases Classical.em (okV ys = true) with h1 | h1
        · exact .inr (decide_eq_false (fun h2 => hv ⟨h1, h2⟩))
        · exact .inl (by simpa using h1)
      have HF := hide (show ∀ v w1, w1.ownsRow w.heap.size 3 1 v 0 (ivs []) → Below w.heap.size w w1 → GivesB (mVecS R C xs ys) (NI w (mVec R C xs ys)) (.returned (.tuple #[v, .bool false])) w1 from fun v w1 ho hb1 => by
        have hno : mvOk R C xs ys = false := by rw [mvOk, hm, Bool.true_and]; exact hvo
        exact givesB (by rw [mVecS, hno]; rfl) (NewI.own ho hb1 (by rw [mVec, hno]; rfl)))
      clear h h' hm hv hxl
      have HX1 := hide x1
      clear x0 x1 x2
      subst hwb
      go_enter Try.func92, Try.ntmps92
      go_wp2_with fail
      refine HOK.out.mono ?_
      rintro e w1 ⟨rfl, hb⟩
      have y1 := cellB hb HX1.out
      have hb1 := hb0.trans (hb.mono hb0.size)
      go_wp2_with fail
      refine (HVO.out _ hb1).mono ?_
      rintro e w' ⟨rfl, rfl⟩
      rw [hvo]
      go_wp2_with fail
      go_ret2
      exact HF.out _ _ (World.ownsRow_nil _ _ _ _) hb1
    case pos =>
      have hyC : ys.length = C := by have := hv.2; omega
      have hmv : mvOk R C xs ys = true := by rw [mvOk, hm, hv.1, decide_eq_true hv.2]; rfl
      obtain ⟨zs, hz⟩ : ∃ zs, zs = mvRow C xs ys R := ⟨_, rfl⟩
      obtain ⟨gs, hg⟩ : ∃ gs, gs = mvRowS C xs ys R := ⟨_, rfl⟩
      have HZL := hide (show zs.length = R from by rw [hz]; simp [mvRow])
      have HGL := hide (show gs.length = R from by rw [hg]; simp [mvRowS])
      have HZ := hide hz
      have HG := hide hg
      have HMV := hide hmv
      have HXL := hide hxl
      have hvo : (okV ys && decide ((ys.length : Int) = (C : Int))) = true := by rw [hv.1, decide_eq_true hv.2]; rfl
      clear hz hg hmv hxl hm
      have HVB := hide hvo
      clear hvo hv
      have HBW := hide hwb
      rw [hwb] at HOK
      go_enter Try.func92, Try.ntmps92
      go_wp2_with fail
      refine HOK.out.mono ?_
      rintro e w1 ⟨rfl, hb⟩
      rw [← HBW.out] at hb
      have y1 := cellB hb x1
      go_wp2_with fail
      refine (HVO.out _ (hb0.trans (hb.mono hb0.size))).mono ?_
      rintro e w' ⟨rfl, rfl⟩
      rw [HVB.out]
      clear y1
      go_wp2_with fail
      have y0 := cellB hb x0
      have y1 := cellB hb x1
      have y2 := cellB hb x2
      have hbw : Below w.heap.size w w1 := hb0.trans (hb.mono hb0.size)
      have h1 := h.below (hbw.mono hB)
      have h1' := h'.below (hbw.mono hB')
      have hsw := hbw.size
      clear h h' hb x0 x1 x2 hb0
      go_loopw [6, 7, 8] (fun v fl i wr => ∃ k : Nat, k ≤ R ∧ i = .int .i64 (k : Int) ∧ fl = .bool ((gs.take k).any id) ∧ wr.ownsRow w1.heap.size 3 1 v k (ivs (zs.take k)) ∧ Below w1.heap.size w1 wr)
        (fun _ _ i _ => R - (intOf i).toNat)
      case atStart => exact ⟨0, Nat.zero_le _, rfl, rfl, World.ownsRow_made w1 #[] 0 (Nat.le_refl _) (by decide) rfl, (Below.refl _ _).alloc (Nat.le_refl _) _⟩
      case round =>
        obtain ⟨k, hk, rfl, rfl, hown, hb⟩ := hrel
        have hsz := hb.size
        have z0 := cellB hb y0
        have z1 := cellB hb y1
        have z2 := cellB hb y2
        by_cases hlt : k < R
        · obtain ⟨b, off, rfl, hbB, hq1, hq2, hq3, hrow⟩ := h1.row HXL.out hlt hC1
          obtain ⟨p, hp⟩ : ∃ p, p = k * C := ⟨_, rfl⟩
          obtain ⟨q, hq⟩ : ∃ q, q = (k + 1) * C := ⟨_, rfl⟩
          rw [← hp, ← hq] at hq3
          rw [← hq] at hq1
          rw [← hp] at hrow
          have e1 : (k : Int) * (C : Int) = (p : Int) := by rw [hp, Int.natCast_mul]
          have e2 : ((k : Int) + 1) * (C : Int) = (q : Int) := by rw [hq, Int.natCast_mul]; rfl
          obtain ⟨fb, hfb⟩ : ∃ fb, fb = (gs.take k).any id := ⟨_, rfl⟩
          obtain ⟨x, hx⟩ : ∃ x, x = vDot (rowK C xs k) ys := ⟨_, rfl⟩
          obtain ⟨o1, ho1⟩ : ∃ o1, o1 = vDotS (rowK C xs k) ys := ⟨_, rfl⟩
          rw [← hfb]
          have HS := hide (show (gs.take (k + 1)).any id = (fb || o1) from by rw [any_one gs k (by rw [HGL.out]; exact hlt), hfb, HG.out, mvRowS, range_get _ R k hlt, ho1])
          have HV := hide (show ivs (zs.take (k + 1)) = ivs (zs.take k) ++ [iv x] from by rw [HZ.out, mvRow, take_range_succ _ R k hlt, hx]; simp [ivs])
          have HROW := hide (hrow.below (hb.mono (show B ≤ w1.heap.size by omega)))
          have HDOT := hide (show ∀ W nn, Below wr.heap.size wr W → nn = C → Calls Try.prog 104 #[.slice (some ⟨b, off + p, none⟩) nn (cap - p), .slice A' n' c'] W (Quiet (.tuple #[.int .i64 x, .bool o1]) W) from fun W nn hW hnn => by
            subst hnn
            rw [hx, ho1]
            exact impl_VecDot W (HROW.out.below (hW.mono (by omega))) ((h1'.below (hb.mono (by omega))).below (hW.mono (by omega))) (by omega) (by omega))
          clear hx ho1 hfb hp hq h1 h1' hrow
          cases fb
          all_goals
            go_wp2_with fail
            refine (HDOT.out _ _ (Below.refl _ _) (by omega)).mono ?_
            rintro e w2 hq2
            obtain ⟨rfl, hb2⟩ := hq2.below
            clear hq2
            have hown2 := ownsB hown hb2
            have hsz2 := hb2.size
            go_wp2_with (at_builtin; refine wpList_push1 w2 (iv x) rfl (.tmp 45) (.tmp 47) _ rfl w1.heap.size 3 _ 8 Try.underlying25 int_info rfl u6 _ _ rfl hown2 rfl rfl (by omega) (by omega) (by omega) ?_; intro v' w3 hown' hgr _)
            go_roundw
            case rel => exact ⟨k + 1, by omega, by go_num, by rw [HS.out]; rfl, by rw [HV.out]; exact hown', (hb.trans (hb2.mono (show w1.heap.size ≤ wr.heap.size by omega))).grown hgr (by omega) (fun q hq => (hown2.lt q hq).1)⟩
            case measure => simp [intOf]; omega
        · obtain rfl : k = R := by omega
          clear h1 h1'
          go_wp2_with fail
          go_ret2
          have hbf : Below w.heap.size w wr := hbw.trans (hb.mono (by omega))
          exact givesB (by rw [mVecS, HMV.out, List.take_of_length_le (by rw [HGL.out]; omega), HG.out]; rfl) (NewI.own (ownsLo hown (by omega)) hbf (by rw [mVec, if_pos HMV.out, List.take_of_length_le (by rw [HZL.out]; omega), HZ.out]; rfl))
theorem spec_l4Row {n cap C k p q b off : Nat} (r : Int) (w : World) (hk : k ≤ 6) (hC : C ≤ 6) (hC1 : 1 ≤ C) (hp : p = k * C) (hq : q = (k + 1) * C) (hqn : q ≤ n) (hnc : n ≤ cap) :
    Calls Try.prog 133 #[mv r C (some ⟨b, off, none⟩) n cap, .int .i64 (k : Int)] w fun e w' => ∃ nn cc, e = .returned (.slice (some ⟨b, off + p, none⟩) nn cc) ∧ nn = C ∧ cc = cap - p ∧ Below w.heap.size w w' := by
  have e1 : (k : Int) * (C : Int) = (p : Int) := by rw [hp, Int.natCast_mul]
  have e2 : ((k : Int) + 1) * (C : Int) = (q : Int) := by rw [hq, Int.natCast_mul]; rfl
  have h36 : p + C = q := by rw [hp, hq, Nat.succ_mul]
  have hq42 : q ≤ 42 := by rw [hq]; exact Nat.mul_le_mul (show k + 1 ≤ 7 by omega) hC
  clear hp hq
  go_enter Try.func133, Try.ntmps133
  go_wp2_with fail
  go_ret
  exact ⟨_, _, rfl, by omega, rfl, (Below.refl _ _).alloc (Nat.le_refl _) _⟩
set_option maxHeartbeats 4000000 in
theorem spec_MatVec {B n cap B' n' c' : Nat} {A A' : Option Addr} {xs ys : List Int} (r c : Int) (w : World) (h : RI w B A n cap xs) (h' : RI w B' A' n' c' ys) (hB : B ≤ w.heap.size) (hB' : B' ≤ w.heap.size) (hn : n ≤ 1048576) (hn' : n' ≤ 1048576) :
    Calls Try.prog 85 #[mv r c A n cap, .slice A' n' c'] w (GivesB (mVecS r c xs ys) (NI w (mVec r c xs ys))) := by
  have hl := hide h.1
  have hl' := hide h'.1
  obtain ⟨wb, hwb⟩ : ∃ wb, wb = w.alloc (.cells #[.int .i64 r, .int .i64 c, .slice A n cap] 113) := ⟨_, rfl⟩
  have hb0 : Below w.heap.size w wb := hwb ▸ (Below.refl _ _).alloc (Nat.le_refl _) _
  have x0 : wb.cell? ⟨w.heap.size, 0, none⟩ = some (.int .i64 r) := by rw [hwb]; simp
  have x1 : wb.cell? ⟨w.heap.size, 1, none⟩ = some (.int .i64 c) := by rw [hwb]; simp
  have x2 : wb.cell? ⟨w.heap.size, 2, none⟩ = some (.slice A n cap) := by rw [hwb]; simp
  have hA : ∀ j v, wb.cell? ⟨w.heap.size, j, none⟩ = some v → (wb.alloc (.cells #[] 3)).cell? ⟨w.heap.size, j, none⟩ = some v := fun j v hc => cellB ((Below.refl _ _).alloc (Nat.le_refl _) _) hc
  have hb00 : Below w.heap.size w (wb.alloc (.cells #[] 3)) := hb0.alloc hb0.size _
  have HOK := hide (spec_MatOk r c (wb.alloc (.cells #[] 3)) (h.below (hb00.mono hB)) (by have := hb00.size; omega) hn)
  have HVO := hide fun (w1 : World) (hb1 : Below w.heap.size w w1) => spec_VecOk w1 (h'.below (hb1.mono hB')) hn'
  have hsb : wb.heap.size = w.heap.size + 1 := by rw [hwb]; simp
  have HOWN := hide (show ∀ W, Below (wb.alloc (.cells #[] 3)).heap.size (wb.alloc (.cells #[] 3)) W → W.ownsRow (w.heap.size + 1) 3 1 (.slice (some ⟨w.heap.size + 1, 0, none⟩) 0 0) 0 (ivs []) from fun W hW => by have := ownsB (World.ownsRow_made (e := 3) (size := 1) wb #[] 0 (Nat.le_refl _) (by decide) rfl) hW; rw [hsb] at this; exact this)
  have HSZ := hide (show w.heap.size + 1 ≤ (wb.alloc (.cells #[] 3)).heap.size by simp [hsb])
  clear hsb
  cases hm : okM r c xs with
  | false =>
    rw [hm] at HOK
    have HF := hide (show ∀ v w1, w1.ownsRow w.heap.size 3 1 v 0 (ivs []) → Below w.heap.size w w1 → GivesB (mVecS r c xs ys) (NI w (mVec r c xs ys)) (.returned (.tuple #[v, .bool false])) w1 from fun v w1 ho hb1 =>
      givesB (by rw [mVecS, mvOk, hm]; rfl) (NewI.own ho hb1 (by rw [mVec, mvOk, hm]; rfl)))
    clear h h' HVO hm x0 x1 x2
    subst hwb
    go_enter Try.func85, Try.ntmps85
    go_wp2_with fail
    refine HOK.out.mono ?_
    rintro e w1 ⟨rfl, hb⟩
    go_wp2_with fail
    go_ret2
    exact HF.out _ _ (ownsLo (HOWN.out _ hb) (Nat.le_succ _)) (hb00.trans (hb.mono hb00.size))
  | true =>
    rw [hm] at HOK
    obtain ⟨R, C, rfl, rfl, hR1, hR6, hC1, hC6, hxl, _⟩ := okM_spec hm
    by_cases hv : okV ys = true ∧ (ys.length : Int) = (C : Int)
    case neg =>
      have hvo : (okV ys && decide ((ys.length : Int) = (C : Int))) = false := by
        rw [Bool.and_eq_false_iff]
        rcases Classical.em (okV ys = true) with h1 | h1
        · exact .inr (decide_eq_false (fun h2 => hv ⟨h1, h2⟩))
        · exact .inl (by simpa using h1)
      have HF := hide (show ∀ v w1, w1.ownsRow w.heap.size 3 1 v 0 (ivs []) → Below w.heap.size w w1 → GivesB (mVecS R C xs ys) (NI w (mVec R C xs ys)) (.returned (.tuple #[v, .bool false])) w1 from fun v w1 ho hb1 => by
        have hno : mvOk R C xs ys = false := by rw [mvOk, hm, Bool.true_and]; exact hvo
        exact givesB (by rw [mVecS, hno]; rfl) (NewI.own ho hb1 (by rw [mVec, hno]; rfl)))
      clear h h' hm hxl
      have HX1 := hide (hA _ _ x1)
      have HB00 := hide hb00
      clear x0 x1 x2 hA hb00 hb0
      subst hwb
      cases hvv : okV ys with
      | false =>
        clear hvo hv
        go_enter Try.func85, Try.ntmps85
        go_wp2_with fail
        refine HOK.out.mono ?_
        rintro e w1 ⟨rfl, hb⟩
        have hb1 := HB00.out.trans (hb.mono HB00.out.size)
        go_wp2_with fail
        refine (HVO.out _ hb1).mono ?_
        rintro e w' ⟨rfl, rfl⟩
        go_wp2_with fail
        go_ret2
        exact HF.out _ _ (ownsLo (HOWN.out _ hb) (Nat.le_succ _)) hb1
      | true =>
        have hne : ((n' : Int) != (C : Int)) = true := by
          have h3 := hl'.out
          simp
          intro h4
          exact hv ⟨hvv, by omega⟩
        clear hvo hv
        go_enter Try.func85, Try.ntmps85
        go_wp2_with fail
        refine HOK.out.mono ?_
        rintro e w1 ⟨rfl, hb⟩
        have y1 := cellB hb HX1.out
        have hb1 := HB00.out.trans (hb.mono HB00.out.size)
        go_wp2_with fail
        refine (HVO.out _ hb1).mono ?_
        rintro e w' ⟨rfl, rfl⟩
        go_wp2_with fail
        go_ret2
        exact HF.out _ _ (ownsLo (HOWN.out _ hb) (Nat.le_succ _)) hb1
    case pos =>
      have hyC : ys.length = C := by have := hv.2; omega
      have hmv : mvOk R C xs ys = true := by rw [mvOk, hm, hv.1, decide_eq_true hv.2]; rfl
      obtain ⟨zs, hz⟩ : ∃ zs, zs = mvRow C xs ys R := ⟨_, rfl⟩
      obtain ⟨gs, hg⟩ : ∃ gs, gs = mvRowS C xs ys R := ⟨_, rfl⟩
      have HZL := hide (show zs.length = R from by rw [hz]; simp [mvRow])
      have HGL := hide (show gs.length = R from by rw [hg]; simp [mvRowS])
      have HZ := hide hz
      have HG := hide hg
      have HMV := hide hmv
      have HXL := hide hxl
      have hvo : (okV ys && decide ((ys.length : Int) = (C : Int))) = true := by rw [hv.1, decide_eq_true hv.2]; rfl
      clear hz hg hmv hxl hm
      have hvv := hv.1
      have hne : ((n' : Int) != (C : Int)) = false := by
        have h3 := hl'.out
        simp; omega
      clear hvo hv
      replace x0 := hA _ _ x0
      replace x1 := hA _ _ x1
      replace x2 := hA _ _ x2
      clear hA
      replace hb0 := hb00
      clear hb00
      have HBW := hide hwb
      rw [hwb] at HOK
      go_enter Try.func85, Try.ntmps85
      go_wp2_with fail
      refine HOK.out.mono ?_
      rintro e w1 ⟨rfl, hb⟩
      rw [← HBW.out] at hb
      have y1 := cellB hb x1
      go_wp2_with fail
      refine (HVO.out _ (hb0.trans (hb.mono hb0.size))).mono ?_
      rintro e w' ⟨rfl, rfl⟩
      have hown1 := HOWN.out _ hb
      go_wp2_with fail
      clear y1
      have y0 := cellB hb x0
      have y1 := cellB hb x1
      have y2 := cellB hb x2
      have hbw : Below w.heap.size w w1 := hb0.trans (hb.mono hb0.size)
      have h1 := h.below (hbw.mono hB)
      have h1' := h'.below (hbw.mono hB')
      have hsw := hbw.size
      have hs9 := Nat.le_trans HSZ.out hb.size
      clear h h' hb x0 x1 x2 hb0
      go_loopw [6, 7, 8] (fun v fl i wr => ∃ k : Nat, k ≤ R ∧ i = .int .i64 (k : Int) ∧ fl = .bool ((gs.take k).any id) ∧ wr.ownsRow (w.heap.size + 1) 3 1 v k (ivs (zs.take k)) ∧ Below (w.heap.size + 1) w1 wr)
        (fun _ _ i _ => R - (intOf i).toNat)
      case atStart => exact ⟨0, Nat.zero_le _, rfl, rfl, hown1, Below.refl _ _⟩
      case round =>
        obtain ⟨k, hk, rfl, rfl, hown, hb⟩ := hrel
        have hsz := hb.size
        have z0 := (hb.cell (show (⟨w.heap.size, 0, none⟩ : Addr).block < w.heap.size + 1 from Nat.lt_succ_self _)).trans y0
        have z1 := (hb.cell (show (⟨w.heap.size, 1, none⟩ : Addr).block < w.heap.size + 1 from Nat.lt_succ_self _)).trans y1
        have z2 := (hb.cell (show (⟨w.heap.size, 2, none⟩ : Addr).block < w.heap.size + 1 from Nat.lt_succ_self _)).trans y2
        by_cases hlt : k < R
        · obtain ⟨b, off, rfl, hbB, hq1, hq2, hq3, hrow⟩ := h1.row HXL.out hlt hC1
          obtain ⟨p, hp⟩ : ∃ p, p = k * C := ⟨_, rfl⟩
          obtain ⟨q, hq⟩ : ∃ q, q = (k + 1) * C := ⟨_, rfl⟩
          rw [← hp, ← hq] at hq3
          rw [← hq] at hq1
          rw [← hp] at hrow
          have e1 : (k : Int) * (C : Int) = (p : Int) := by rw [hp, Int.natCast_mul]
          have e2 : ((k : Int) + 1) * (C : Int) = (q : Int) := by rw [hq, Int.natCast_mul]; rfl
          obtain ⟨fb, hfb⟩ : ∃ fb, fb = (gs.take k).any id := ⟨_, rfl⟩
          obtain ⟨x, hx⟩ : ∃ x, x = vDot (rowK C xs k) ys := ⟨_, rfl⟩
          obtain ⟨o1, ho1⟩ : ∃ o1, o1 = vDotS (rowK C xs k) ys := ⟨_, rfl⟩
          rw [← hfb]
          have HS := hide (show (gs.take (k + 1)).any id = (fb || o1) from by rw [any_one gs k (by rw [HGL.out]; exact hlt), hfb, HG.out, mvRowS, range_get _ R k hlt, ho1])
          have HV := hide (show ivs (zs.take (k + 1)) = ivs (zs.take k) ++ [iv x] from by rw [HZ.out, mvRow, take_range_succ _ R k hlt, hx]; simp [ivs])
          have HROW := hide (hrow.below (hb.mono (show B ≤ (w.heap.size + 1) by omega)))
          have HDOT := hide (show ∀ W nn, Below wr.heap.size wr W → nn = C → Calls Try.prog 98 #[.slice (some ⟨b, off + p, none⟩) nn (cap - p), .slice A' n' c'] W (Quiet (.tuple #[.int .i64 x, .bool o1]) W) from fun W nn hW hnn => by
            subst hnn
            rw [hx, ho1]
            exact spec_VecDot W (HROW.out.below (hW.mono (by omega))) ((h1'.below (hb.mono (by omega))).below (hW.mono (by omega))) (by omega) (by omega))
          have HL4 := hide (show ∀ W, Below wr.heap.size wr W → Calls Try.prog 133 #[mv R C (some ⟨b, off, none⟩) n cap, .int .i64 (k : Int)] W fun e w' => ∃ nn cc, e = .returned (.slice (some ⟨b, off + p, none⟩) nn cc) ∧ nn = C ∧ cc = cap - p ∧ Below W.heap.size W w' from fun W _ => spec_l4Row R W (by omega) hC6 hC1 hp hq hq1 hq2)
          clear hx ho1 hfb hp hq h1 h1' hrow
          cases fb
          all_goals
            go_wp2_with fail
            refine (HL4.out _ (Below.refl _ _)).mono ?_
            rintro e w4 ⟨nn, cc, rfl, hnn, rfl, hb4⟩
            go_wp2_with fail
            clear hnn
            refine (HDOT.out _ C hb4 rfl).mono ?_
            rintro e w2 hq2
            obtain ⟨rfl, hb2⟩ := hq2.below
            clear hq2
            replace hb2 := below2 hb4 hb2
            have hown2 := ownsB hown hb2
            have hsz2 := hb2.size
            go_wp2_with (at_builtin; refine wpList_push1 w2 (iv x) rfl (.tmp 42) (.tmp 44) _ rfl (w.heap.size + 1) 3 _ 8 Try.underlying25 int_info rfl u6 _ _ rfl hown2 rfl rfl (by omega) (by omega) (by omega) ?_; intro v' w3 hown' hgr _)
            go_roundw
            case rel => exact ⟨k + 1, by omega, by go_num, by rw [HS.out]; rfl, by rw [HV.out]; exact hown', (hb.trans (hb2.mono (show (w.heap.size + 1) ≤ wr.heap.size by omega))).grown hgr (by omega) (fun q hq => (hown2.lt q hq).1)⟩
            case measure => simp [intOf]; omega
        · obtain rfl : k = R := by omega
          clear h1 h1'
          go_wp2_with fail
          go_ret2
          have hbf : Below w.heap.size w wr := hbw.trans (hb.mono (by omega))
          exact givesB (by rw [mVecS, HMV.out, List.take_of_length_le (by rw [HGL.out]; omega), HG.out]; rfl) (NewI.own (ownsLo hown (by omega)) hbf (by rw [mVec, if_pos HMV.out, List.take_of_length_le (by rw [HZL.out]; omega), HZ.out]; rfl))
end Go.Proofs.Ytehfglfbnjdcoaa
