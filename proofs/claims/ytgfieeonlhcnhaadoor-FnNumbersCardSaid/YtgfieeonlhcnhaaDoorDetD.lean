/-
  What is drawn from a code: numbers and texts.
-/
import Derived.Test.YtgfieeonlhcnhaaDoorDetT
import Derived.Test.YtgfieeonlhcnhaaDoorShow
namespace Go.Proofs.YtgfieeonlhcnhaaDoor
open Go.RowKit
set_option maxRecDepth 100000
variable {xs : List Int}
def nH (xs : List Int) : Nat → Int
  | 0 => 10101 + (xs.length : Int)
  | k + 1 => bits .and .i64 (wrap64 (wrap64 (wrap64 (nH xs k * 131) + xs.getD k 0) + 7)) 1073741823
set_option maxRecDepth 100000 in
theorem det_l1New (xs : List Int) : ∃ s, ∀ (B : Nat) (A : Option Addr) (n cap : Nat) (w : World), BAx w B A n cap xs → B ≤ w.heap.size →
    Hid (Calls Tryd.prog 30 #[.slice A n cap] w fun e w' => e = .returned (.pointer (some ⟨w.heap.size, 0, none⟩)) ∧ Below w.heap.size w w' ∧ Cat xs s B A n cap w.heap.size w') := by
  refine ⟨(0, nH xs (min xs.length 4000)), fun B A n cap w hb hB => ?_⟩
  show Calls _ _ _ _ _
  have hn := hb.2.1
  have hln := hb.2.2.1
  have HB := hide hb
  have hbe : ∀ o : Obj, BAx (w.alloc o) B A n cap xs := fun o => HB.out.below ((Below.refl _ _).alloc hB _)
  have HBE := hide hbe
  have h00 : (10101 : Int) + (n : Int) = nH xs 0 := by rw [nH, hln]
  have HL := hide hln
  have H00 := hide h00
  clear hln hbe h00 hb
  go_enter Tryd.func30, Tryd.ntmps30
  go_wp2_with fail
  go_loop [3, 4] (fun h i => ∃ (k : Nat), k ≤ n ∧ k ≤ 4000 ∧ i = .int .i64 (k : Int) ∧ h = .int .i64 (nH xs k)) (fun _ i => n - (intOf i).toNat)
  case atStart => exact ⟨0, Nat.zero_le _, by omega, rfl, by rw [← H00.out]⟩
  case round =>
    obtain ⟨k, hk, hk4, rfl, rfl⟩ := hrel
    have HS := hide (show nH xs (k + 1) = bits .and .i64 (wrap64 (wrap64 (wrap64 (nH xs k * 131) + xs.getD k 0) + 7)) 1073741823 from rfl)
    have HE := hide (fun h : k = n ∨ k = 4000 => show nH xs k = nH xs (min xs.length 4000) from by rw [HL.out]; congr 1; omega)
    by_cases hlt : k < n
    · by_cases h4 : k < 4000
      · obtain ⟨b, off, rfl, hbB, hx0, hx1, hc⟩ := HB.out.at_ hlt
        obtain ⟨x, hx⟩ : ∃ x, xs.getD k 0 = x := ⟨_, rfl⟩
        rw [hx] at hx0 hx1 hc HS
        clear hx
        obtain ⟨h0, hh0⟩ : ∃ h0, nH xs k = h0 := ⟨_, rfl⟩
        rw [hh0] at HS ⊢
        clear hh0 HE
        go_wp2_with fail
        go_round
        case rel => exact ⟨k + 1, by omega, by omega, by go_num, by rw [HS.out]⟩
        case measure => simp [intOf]; omega
      · have HZ := hide (HE.out (by omega))
        obtain ⟨h0, hh0⟩ : ∃ h0, nH xs k = h0 := ⟨_, rfl⟩
        rw [hh0] at HZ ⊢
        clear hh0 HE HS
        go_wp2_with fail
        go_ret
        exact ⟨rfl, (Below.refl _ _).alloc (Nat.le_refl _) _, hB, Nat.zero_le _, ⟨_, by rw [← HZ.out]; exact heap_alloc_new w _⟩, HBE.out _⟩
    · obtain rfl : k = n := by omega
      have HZ := hide (HE.out (by omega))
      obtain ⟨h0, hh0⟩ : ∃ h0, nH xs k = h0 := ⟨_, rfl⟩
      rw [hh0] at HZ ⊢
      clear hh0 HE HS
      go_wp2_with fail
      go_ret
      exact ⟨rfl, (Below.refl _ _).alloc (Nat.le_refl _) _, hB, Nat.zero_le _, ⟨_, by rw [← HZ.out]; exact heap_alloc_new w _⟩, HBE.out _⟩
/-- drawn from a code: always the same; nothing that was there turns -/
def DetC (xs : List Int) (f : FuncId) (v : Value) : Prop :=
  ∀ (B : Nat) (A : Option Addr) (n cap : Nat) (w : World), BAx w B A n cap xs → B ≤ w.heap.size → Calls Tryd.prog f #[.slice A n cap] w fun e w' => e = .returned v ∧ Below w.heap.size w w'
theorem only_end {w w1 w2 : World} (hb : Below w.heap.size w w1) (ho : Only (fun b => b = w.heap.size) w1 w2) : Below w.heap.size w w2 := hb.trans (ho.below hb.size (fun k hk e => by omega))
theorem det_DrawVar (xs : List Int) : ∃ N, -9223372036854775808 ≤ N ∧ N ≤ 9223372036854775807 ∧ Hid (DetC xs 21 (.int .i64 N)) := by
  obtain ⟨s0, D0⟩ := det_l1New xs
  obtain ⟨N, s1, h0, h1, D1⟩ := det_l1Num (xs := xs) s0
  refine ⟨N, h0, h1, fun B A n cap w hb hB => ?_⟩
  have H0 := D0 B A n cap w hb hB
  have H1 := hide D1
  clear D0 D1 hb
  go_enter Tryd.func21, Tryd.ntmps21
  go_wp2_with fail
  refine H0.out.mono ?_
  rintro e w1 ⟨rfl, hb, hc⟩
  go_wp2_with fail
  refine (H1.out B A n cap _ w1 hc).mono ?_
  rintro e w2 ⟨rfl, ho, hc2⟩
  go_wp2_with fail
  go_ret
  exact ⟨rfl, only_end hb ho⟩
theorem det_DrawHex (xs : List Int) : ∃ x : ByteArray, x.size ≤ 40 ∧ Hid (DetC xs 22 (.string x)) := by
  obtain ⟨s0, D0⟩ := det_l1New xs
  obtain ⟨bs, s1, h0, D1⟩ := det_l1Text (xs := xs) s0 40 (by omega)
  refine ⟨strOfNums bs, by rw [strOfNums_size]; exact h0, fun B A n cap w hb hB => ?_⟩
  have H0 := D0 B A n cap w hb hB
  have H1 := hide D1
  clear D0 D1 hb
  go_enter Tryd.func22, Tryd.ntmps22
  go_wp2_with fail
  refine H0.out.mono ?_
  rintro e w1 ⟨rfl, hb, hc⟩
  go_wp2_with fail
  refine (H1.out B A n cap _ w1 hc).mono ?_
  rintro e w2 ⟨rfl, ho, hc2⟩
  go_wp2_with fail
  go_ret
  exact ⟨rfl, only_end hb ho⟩
theorem varS_small (n : Int) : (varS n).size ≤ 7 := by
  by_cases h : 0 ≤ n ∧ n ≤ 562949953421311
  · rw [varS, if_pos h, strOfNums_size]
    exact varI_len 6 n.toNat (by have : (128 : Nat) ^ (6 + 1) = 562949953421312 := by decide
                                 omega)
  · rw [varS, if_neg h]
    simp
theorem det_DrawReadVar (xs : List Int) : ∃ x : ByteArray, x.size ≤ 20 ∧ Hid (DetC xs 29 (.string x)) := by
  obtain ⟨s0, D0⟩ := det_l1New xs
  obtain ⟨N, s1, h0, h1, D1⟩ := det_l1Num (xs := xs) s0
  obtain ⟨bs, s2, hl, D2⟩ := det_l1Text (xs := xs) s1 4 (by omega)
  obtain ⟨b, s3, D3⟩ := det_l1Once (xs := xs) s2 4 (by omega) (by omega)
  obtain ⟨X, hX⟩ : ∃ X, varS N = X := ⟨_, rfl⟩
  obtain ⟨Y, hY⟩ : ∃ Y, strOfNums bs = Y := ⟨_, rfl⟩
  have zX := varS_small N
  have zY : (strOfNums bs).size ≤ 4 := by rw [strOfNums_size]; exact hl
  rw [hX] at zX
  rw [hY] at zY D2
  have HV := hide (fun w => spec_Var N w)
  rw [hX] at HV
  have zXY : (X ++ Y).size ≤ 11 := by rw [ByteArray.size_append]; omega
  have H1 := hide D1
  have H2 := hide D2
  have H3 := hide D3
  clear D1 D2 D3 hX hY
  cases b with
  | false =>
    refine ⟨X ++ Y, by omega, fun B A n cap w hb hB => ?_⟩
    have H0 := D0 B A n cap w hb hB
    clear D0 hb
    go_enter Tryd.func29, Tryd.ntmps29
    go_wp2_with fail
    refine H0.out.mono ?_
    rintro e w1 ⟨rfl, hb, hc⟩
    go_wp2_with fail
    refine (H1.out B A n cap _ w1 hc).mono ?_
    rintro e w2 ⟨rfl, ho2, hc2⟩
    have HB2 := hide (only_end hb ho2)
    clear hb ho2 hc
    go_wp2_with fail
    refine (HV.out w2).mono ?_
    rintro e w3 ⟨rfl, hb3⟩
    have HC3 := hide (hc2.below hb3)
    have HB3 := hide (HB2.out.trans (hb3.mono HB2.out.size))
    clear HB2 hb3 hc2 HV
    go_wp2_with fail
    refine (H2.out B A n cap _ w3 HC3.out).mono ?_
    rintro e w4 ⟨rfl, ho4, hc4⟩
    have HB4 := hide (only_end HB3.out ho4)
    clear HB3 HC3 ho4
    go_wp2_with fail
    refine (H3.out B A n cap _ w4 hc4).mono ?_
    rintro e w5 ⟨rfl, ho5, hc5⟩
    have HB5 := hide (only_end HB4.out ho5)
    clear HB4 ho5 hc4 hc5
    go_wp2_with fail
    go_ret
    exact ⟨rfl, HB5.out⟩
  | true =>
    obtain ⟨Z, s4, hz, D4⟩ := det_l1Spoil (xs := xs) s3 (X ++ Y) (by omega)
    have H4 := hide D4
    clear D4
    refine ⟨Z, by omega, fun B A n cap w hb hB => ?_⟩
    have H0 := D0 B A n cap w hb hB
    clear D0 hb
    go_enter Tryd.func29, Tryd.ntmps29
    go_wp2_with fail
    refine H0.out.mono ?_
    rintro e w1 ⟨rfl, hb, hc⟩
    go_wp2_with fail
    refine (H1.out B A n cap _ w1 hc).mono ?_
    rintro e w2 ⟨rfl, ho2, hc2⟩
    have HB2 := hide (only_end hb ho2)
    clear hb ho2 hc
    go_wp2_with fail
    refine (HV.out w2).mono ?_
    rintro e w3 ⟨rfl, hb3⟩
    have HC3 := hide (hc2.below hb3)
    have HB3 := hide (HB2.out.trans (hb3.mono HB2.out.size))
    clear HB2 hb3 hc2 HV
    go_wp2_with fail
    refine (H2.out B A n cap _ w3 HC3.out).mono ?_
    rintro e w4 ⟨rfl, ho4, hc4⟩
    have HB4 := hide (only_end HB3.out ho4)
    clear HB3 HC3 ho4
    go_wp2_with fail
    refine (H3.out B A n cap _ w4 hc4).mono ?_
    rintro e w5 ⟨rfl, ho5, hc5⟩
    have HB5 := hide (only_end HB4.out ho5)
    clear HB4 ho5 hc4
    go_wp2_with fail
    refine (H4.out B A n cap _ w5 hc5).mono ?_
    rintro e w6 ⟨rfl, ho6, hc6⟩
    have HB6 := hide (only_end HB5.out ho6)
    clear HB5 ho6 hc6 hc5
    go_wp2_with fail
    go_ret
    exact ⟨rfl, HB6.out⟩
theorem draw_ShowFix {B n cap : Nat} {A : Option Addr} (w : World) (hb : BA w B A n cap) (hB : B ≤ w.heap.size) : Calls Tryd.prog 10 #[.slice A n cap] w fun e w' => ∃ x, e = .returned (.int .i64 x) ∧ -9223372036854775807 ≤ x ∧ x ≤ 9223372036854775807 ∧ Below w.heap.size w w' := by
  have HN := hide (spec_l1New w hb hB)
  clear hb
  go_enter Tryd.func10, Tryd.ntmps10
  go_wp2_with fail
  refine HN.out.mono ?_
  rintro e w1 ⟨rfl, hb, hc⟩
  go_wp2_with fail
  refine (spec_l2Raw _ hc).mono ?_
  rintro e w2 ⟨x, rfl, h0, h1, ho, hc2⟩
  have HB := hide (only_end hb ho)
  clear hb ho hc2 hc
  go_wp2_with fail
  go_ret
  exact ⟨x, rfl, h0, h1, HB.out⟩
theorem pickS_new {w : World} {us : List ByteArray} {t : TypeId} {m : Nat} (hm : us.length = m) (h2 : m ≤ 1000) : ∀ j, j < m → (w.alloc (.cells (us.map Value.string).toArray t)).cell? ⟨w.heap.size, 0 + j, none⟩ = some (.string (us.getD j ByteArray.empty)) := by
  intro j hj
  have := (World.ownsRow_lit (base := 0) (e := t) (size := 1) w (us.map Value.string).toArray m (Nat.zero_le _) (by simp only [maxLen]; omega) (by simp [hm])).cellAt j (by simp; omega)
  rw [Nat.zero_add, this]
  simp [List.getD, List.getElem?_eq_getElem (show j < us.length by omega)]
theorem spec_pickS {B n cap a : Nat} {A : Option Addr} {w : World} {t : TypeId} {m : Nat} (us : List ByteArray) (h : Cur B A n cap a w) (hm : us.length = m) (h1 : 1 ≤ m) (h2 : m ≤ 1000) {z : Nat} (hxs : ∀ j, j < m → (us.getD j ByteArray.empty).size ≤ z) :
    Calls Tryd.prog 38 #[.pointer (some ⟨a, 0, none⟩), .slice (some ⟨w.heap.size, 0, none⟩) m m] (w.alloc (.cells (us.map Value.string).toArray t)) fun e w' => ∃ x : ByteArray, e = .returned (.string x) ∧ x.size ≤ z ∧ Only (fun b => b = a) w w' := by
  have hbw : Below w.heap.size w (w.alloc (.cells (us.map Value.string).toArray t)) := (Below.refl _ _).alloc (Nat.le_refl _) _
  have hlt := h.lt
  have HB := hide (spec_l1Below (m : Int) _ (h.below hbw) (by omega) (by omega))
  have hcell := fun k hk => pickS_new (w := w) (us := us) (t := t) hm h2 k hk
  have hsz : (w.alloc (.cells (us.map Value.string).toArray t)).heap.size = w.heap.size + 1 := by simp
  obtain ⟨W, hW⟩ : ∃ W, W = w.alloc (.cells (us.map Value.string).toArray t) := ⟨_, rfl⟩
  rw [← hW] at hbw HB hsz ⊢
  simp only [← hW] at hcell
  have hbl : w.heap.size < W.heap.size := by omega
  have hne : w.heap.size ≠ a := by omega
  have HW := hide (show Only (fun b => b = a) w W from Only.of_below hbw)
  have HX := hide hxs
  have HCL := hide hcell
  clear h hxs hbw hW hsz hlt hcell
  go_enter Tryd.func38, Tryd.ntmps38
  go_wp2_with fail
  refine HB.out.mono ?_
  rintro e w1 ⟨x, rfl, hx0, hx1, ho, hc⟩
  obtain ⟨k, rfl⟩ : ∃ k : Nat, x = (k : Int) := ⟨x.toNat, by omega⟩
  have hk : k < m := by omega
  have hv := (ho.cell (a := ⟨w.heap.size, 0 + k, none⟩) hbl hne).trans (HCL.out k hk)
  have hz := HX.out k hk
  obtain ⟨y, hy⟩ : ∃ y, us.getD k ByteArray.empty = y := ⟨_, rfl⟩
  rw [hy] at hv hz
  rw [Nat.zero_add] at hv
  have HO := hide (HW.out.trans ho)
  clear hy HCL HX HB ho hc HW
  go_wp2_with fail
  go_ret
  exact ⟨y, rfl, hz, HO.out⟩
theorem showS_small (n : Int) : (showS n).size ≤ 22 := by
  by_cases h : -2147483647 ≤ n ∧ n ≤ 2147483647
  · rw [showS_ok h.1 h.2]
    show (showL n).toArray.size ≤ 22
    have h1 := itoa_len10 (n := ((n.natAbs / 65536 : Nat) : Int)) (by omega) (by omega)
    have h2 := itoa_len10 (n := ((n.natAbs % 65536 : Nat) : Int)) (by omega) (by omega)
    have h3 : (showP n.natAbs).length ≤ 21 := by rw [showP, List.length_append, List.length_cons]; omega
    rw [List.size_toArray, showL]
    split
    · rw [List.length_cons]; omega
    · omega
  · rw [showS_no h]
    simp
set_option maxRecDepth 100000 in
theorem draw_ReadFix {B n cap : Nat} {A : Option Addr} (w : World) (hb : BA w B A n cap) (hB : B ≤ w.heap.size) : Calls Tryd.prog 13 #[.slice A n cap] w fun e w' => ∃ x : ByteArray, e = .returned (.string x) ∧ x.size ≤ 100 ∧ Below w.heap.size w w' := by
  have HN := hide (spec_l1New w hb hB)
  clear hb
  go_enter Tryd.func13, Tryd.ntmps13
  go_wp2_with fail
  refine HN.out.mono ?_
  rintro e w1 ⟨rfl, hb, hc⟩
  go_wp2_with fail
  refine (spec_l2Fix _ hc).mono ?_
  rintro e w2 ⟨x, rfl, h0, h1, ho, hc2⟩
  have HB2 := hide (only_end hb ho)
  clear hb ho hc
  go_wp2_with fail
  refine (spec_ShowFix x (by omega) (by omega) w2).mono ?_
  rintro e w3 ⟨rfl, hb3⟩
  have HB3 := hide (HB2.out.trans (hb3.mono HB2.out.size))
  have hc3 := hc2.below hb3
  clear hb3 hc2 HB2
  have hsz := showS_small x
  obtain ⟨S, hS⟩ : ∃ S, showS x = S := ⟨_, rfl⟩
  rw [hS] at hsz ⊢
  clear hS
  go_wp2_with fail
  refine (spec_l1Below 5 _ hc3 (by omega) (by omega)).mono ?_
  rintro e w4 ⟨q, rfl, hq0, hq1, ho4, hc4⟩
  have HB4 := hide (only_end HB3.out ho4)
  have HC4 := hide hc4
  clear hc3 ho4 HB3 hc4
  by_cases q0 : q = 0
  · subst q0
    obtain ⟨ys, st, hcat⟩ := cat_of HC4.out
    obtain ⟨Z, s', hz, D⟩ := det_l1Spoil (xs := ys) st S (by omega)
    have HD := hide (D B A n cap _ w4 hcat)
    clear hcat D
    go_wp2_with fail
    refine HD.out.mono ?_
    rintro e w5 ⟨rfl, ho5, hc5⟩
    have HB5 := hide (only_end HB4.out ho5)
    clear hc5 ho5 HD
    go_wp2_with fail
    go_ret
    exact ⟨Z, rfl, by omega, HB5.out⟩
  have b0 : (q == 0) = false := by simpa using q0
  by_cases q1 : q = 1
  · subst q1
    go_wp2_with fail
    refine (spec_pickS [⟨#[49]⟩, ⟨#[45, 48, 43, 48]⟩, ⟨#[49, 43, 54, 53, 53, 51, 54]⟩, ⟨#[51, 50, 55, 54, 56, 43, 48]⟩, ⟨#[43]⟩, ⟨#[49, 43]⟩, ⟨#[48, 49, 43, 48]⟩, ⟨#[45, 45, 49, 43, 48]⟩, ⟨#[51, 50, 55, 54, 55, 43, 54, 53, 53, 51, 53]⟩] HC4.out (m := 9) rfl (by omega) (by omega) (z := 20) (by decide)).mono ?_
    rintro e w5 ⟨Z, rfl, hz, ho5⟩
    have HB5 := hide (only_end HB4.out ho5)
    clear ho5
    go_wp2_with fail
    go_ret
    exact ⟨Z, rfl, by omega, HB5.out⟩
  have b1 : (q == 1) = false := by simpa using q1
  clear q0 q1 hq0 hq1
  go_wp2_with fail
  go_ret
  exact ⟨S, rfl, by omega, HB4.out⟩
end Go.Proofs.YtgfieeonlhcnhaaDoor
