/-
  Texts that are drawn, always the same.
-/
import Derived.Test.YtgfieeonlhcnhaaDoorDet
import Derived.Test.YtgfieeonlhcnhaaDoorStr
import Derived.Deep.DeepMust
namespace Go.Proofs.YtgfieeonlhcnhaaDoor
open Go.RowKit
set_option maxRecDepth 100000
variable {xs : List Int}
theorem own_only {w w' : World} {base n size : Nat} {e : TypeId} {v : Value} {ys : List Value} {p : Nat → Prop} (h : w.ownsRow base e size v n ys) (ho : Only p w w') (hp : ∀ k, base ≤ k → ¬ p k) : w'.ownsRow base e size v n ys := by
  refine ⟨h.1, ?_⟩
  rcases h.2 with hc | ⟨g, cap, cur, rfl, hg, hh, r⟩
  · exact .inl hc
  · have hlt : g < w.heap.size := (Array.getElem?_eq_some_iff.1 hh).1
    exact .inr ⟨g, cap, cur, rfl, hg, (ho.block g hlt (hp g hg)).trans hh, r⟩
theorem Cat.drewO {s : Nat × Int} {B n cap a : Nat} {A : Option Addr} {w : World} (h : Cat xs s B A n cap a w) : Cat xs s B A n cap a w.drew := ⟨h.base, h.le, h.blk, h.bytes⟩
theorem only_undrew {w w' : World} {p : Nat → Prop} (h : Only p w.drew w') : Only p w w' := ⟨h.os, h.tape, h.output, h.size, h.block⟩
def tx (st x : Int) : Int := if st = 1 then x % 2 else if st = 2 then 97 + x % 4 else x
def tIt (xs : List Int) (st : Int) (s : Nat × Int) : Nat → List Int × (Nat × Int)
  | 0 => ([], s)
  | k + 1 => ((tIt xs st s k).1 ++ [tx st (dB xs (tIt xs st s k).2)], dS xs (tIt xs st s k).2)
theorem tIt_len (st : Int) (s : Nat × Int) : ∀ k, (tIt xs st s k).1.length = k
  | 0 => rfl
  | k + 1 => by rw [tIt, List.length_append, tIt_len st s k]; rfl
set_option maxHeartbeats 1000000 in
theorem det_l1Text (s : Nat × Int) (most : Nat) (hm : most ≤ 100) : ∃ bs s', bs.length ≤ most ∧ Det xs s s' 43 [.int .i64 (most : Int)] (.string (strOfNums bs)) := by
  obtain ⟨x, s1, hx0, hx1, D1⟩ := det_l1Below (xs := xs) s 4 (by omega) (by omega)
  obtain ⟨N, s2, hN0, hN1, D2⟩ := det_l1Below (xs := xs) s1 ((most : Int) + 1) (by omega) (by omega)
  obtain ⟨M, rfl⟩ : ∃ M : Nat, N = (M : Int) := ⟨N.toNat, by omega⟩
  have hM : M ≤ most := by omega
  refine ⟨(tIt xs x s2 M).1, (tIt xs x s2 M).2, by rw [tIt_len]; exact hM, fun B A n cap a w h => ?_⟩
  have hb0 : Below w.heap.size w (w.alloc (.cells #[] 5)) := (Below.refl _ _).alloc (Nat.le_refl _) _
  have HB := hide (D1 B A n cap a _ (h.below hb0))
  have hlt0 := h.lt
  have HW := hide (show Only (fun b => b = a) w _ from Only.of_below hb0)
  have HOW := hide (World.ownsRow_made (e := 5) (size := 1) w #[] 0 (Nat.le_refl _) (by decide) rfl)
  have H2 := hide D2
  clear D1 D2 h hb0
  go_enter Tryd.func43, Tryd.ntmps43
  go_wp2_with fail
  refine HB.out.mono ?_
  rintro e w1 ⟨rfl, ho, hc⟩
  have HO1 := hide (HW.out.trans ho)
  have HOW1 := hide (own_only HOW.out ho (fun k hk e => by omega))
  clear ho HB HW HOW
  go_wp2_with fail
  refine (H2.out B A n cap a w1 hc).mono ?_
  rintro e w2 ⟨rfl, ho, hc⟩
  have HO2 := hide (HO1.out.trans ho)
  have HOW2 := hide (own_only HOW1.out ho (fun k hk e => by omega))
  have HC2 := hide hc
  clear ho HO1 HOW1 hc H2
  go_wp2_with fail
  go_loopw [5, 7] (fun v i wr => ∃ k : Nat, k ≤ M ∧ i = .int .i64 ((M : Int) - (k : Int)) ∧ wr.ownsRow w.heap.size 5 1 v k ((tIt xs x s2 k).1.map (Value.int .u8)) ∧ Only (fun b => b = a) w wr ∧ Cat xs (tIt xs x s2 k).2 B A n cap a wr)
    (fun _ i _ => (intOf i).toNat)
  case atStart => exact ⟨0, Nat.zero_le _, by go_num, HOW2.out, HO2.out, HC2.out⟩
  case round =>
    obtain ⟨k, hk, rfl, hown, ho, hc⟩ := hrel
    have hsz := ho.size
    have hca := hc.lt
    have hyb := dB_in (xs := xs) (tIt xs x s2 k).2
    have HD := hide (det_l1Byte (xs := xs) (tIt xs x s2 k).2 B A n cap a wr hc)
    have HE := hide (show tIt xs x s2 (k + 1) = ((tIt xs x s2 k).1 ++ [tx x (dB xs (tIt xs x s2 k).2)], dS xs (tIt xs x s2 k).2) from rfl)
    have hlen := tIt_len (xs := xs) x s2 k
    have HF := hide (show (tIt xs x s2 k).1 = (tIt xs x s2 k).1 from rfl)
    obtain ⟨y, hy⟩ : ∃ y, dB xs (tIt xs x s2 k).2 = y := ⟨_, rfl⟩
    obtain ⟨bs, hbs⟩ : ∃ bs, (tIt xs x s2 k).1 = bs := ⟨_, rfl⟩
    rw [hy] at HD HE hyb
    rw [hbs] at HE hown hlen
    have HBS := hide hbs
    clear hy hbs HF
    have HC := hide hc
    have HO := hide ho
    clear hc ho HC2 HO2 HOW2
    obtain ⟨hy0, hy1⟩ := hyb
    by_cases hkM : k < M
    · have hkM' : 0 < (M : Int) - (k : Int) := by omega
      go_wp2_with fail
      refine HD.out.mono ?_
      rintro e w3 ⟨rfl, ho3, hc3⟩
      have hown3 := own_only hown ho3 (fun q hq e => by omega)
      have hsz3 := ho3.size
      have HO3 := hide (HO.out.trans ho3)
      have HC3 := hide hc3
      have HO33 := hide ho3
      clear HD hown ho3 hc3 HO HC
      have hg : ∀ q, u5.ownBlock = some q → w.heap.size ≤ q := fun q hq => (hown3.lt q hq).1
      have fin : ∀ (z : Int) (v' : Value) (w4 : World), tx x y = z → w4.ownsRow w.heap.size 5 1 v' (k + 1) (bs.map (Value.int .u8) ++ [.int .u8 z]) → w3.grownBy w4 u5.ownBlock →
          ∃ k' : Nat, k' ≤ M ∧ Value.int .i64 ((M : Int) - (k : Int) - 1) = .int .i64 ((M : Int) - (k' : Int)) ∧ w4.ownsRow w.heap.size 5 1 v' k' ((tIt xs x s2 k').1.map (Value.int .u8)) ∧ Only (fun b => b = a) w w4 ∧ Cat xs (tIt xs x s2 k').2 B A n cap a w4 := by
        intro z v' w4 hz ho4 hgr
        have h5 : Only (fun b => w.heap.size ≤ b) w3 w4 := Only.of_grown hgr hg
        have h6 := HO3.out
        refine ⟨k + 1, by omega, by go_num, ?_, ⟨h5.os.trans h6.os, h5.tape.trans h6.tape, h5.output.trans h6.output, Nat.le_trans h6.size h5.size, fun q hq hn => (h5.block q (by have := h6.size; omega) (by omega)).trans (h6.block q hq hn)⟩, ?_⟩
        · rw [HE.out, hz]
          simpa using ho4
        · rw [HE.out]
          exact HC3.out.only h5 (fun q hq => by have := HC3.out.base; omega)
      have FIN := hide fin
      clear fin hg
      rcases (show x = 1 ∨ x = 2 ∨ ((x == 1) = false ∧ (x == 2) = false) from by
        by_cases h1 : x = 1
        · exact Or.inl h1
        · by_cases h2 : x = 2
          · exact Or.inr (Or.inl h2)
          · exact Or.inr (Or.inr ⟨by simpa using h1, by simpa using h2⟩)) with h1 | h1 | ⟨h1, h2⟩
      · subst h1
        have HZ := hide (show tx 1 y = y % 2 from rfl)
        go_wp2_with (at_builtin; refine wpList_push1 w3 (.int .u8 (y % 2)) rfl (.tmp 31) (.tmp 34) _ rfl w.heap.size 5 _ 1 Tryd.underlying22 u8_info rfl _ _ _ rfl hown3 rfl rfl (by omega) (by omega) (by omega) ?_; intro v' w4 hown' hgr _)
        go_roundw
        case rel => exact FIN.out _ _ _ HZ.out hown' hgr
        case measure => simp [intOf]; omega
      · subst h1
        have HZ := hide (show tx 2 y = 97 + y % 4 from rfl)
        go_wp2_with (at_builtin; refine wpList_push1 w3 (.int .u8 (97 + y % 4)) rfl (.tmp 31) (.tmp 34) _ rfl w.heap.size 5 _ 1 Tryd.underlying22 u8_info rfl _ _ _ rfl hown3 rfl rfl (by omega) (by omega) (by omega) ?_; intro v' w4 hown' hgr _)
        go_roundw
        case rel => exact FIN.out _ _ _ HZ.out hown' hgr
        case measure => simp [intOf]; omega
      · have HZ := hide (show tx x y = y from by
          rw [tx, if_neg (by simpa using h1), if_neg (by simpa using h2)])
        go_wp2_with (at_builtin; refine wpList_push1 w3 (.int .u8 y) rfl (.tmp 31) (.tmp 34) _ rfl w.heap.size 5 _ 1 Tryd.underlying22 u8_info rfl _ _ _ rfl hown3 rfl rfl (by omega) (by omega) (by omega) ?_; intro v' w4 hown' hgr _)
        go_roundw
        case rel => exact FIN.out _ _ _ HZ.out hown' hgr
        case measure => simp [intOf]; omega
    · have hkM' : ¬ 0 < (M : Int) - (k : Int) := by omega
      obtain rfl : k = M := by omega
      have hcv := run_conv_own (P := Tryd.prog) Tryd.underlying22 Tryd.underlying5 Tryd.underlying9 hown
      clear HD
      go_wp2_with fail
      go_ret
      exact ⟨by rw [HBS.out]; rfl, HO.out, HC.out⟩
theorem u8_wrap {x : Int} (h0 : 0 ≤ x) (h1 : x ≤ 255) : IntKind.u8.wrap x = x := by rw [IntKind.wrap_u8]; omega
set_option maxHeartbeats 1000000 in
theorem det_l1Spoil (st : Nat × Int) (s : ByteArray) (hs : s.size ≤ 100) : ∃ x s', x.size ≤ s.size + 3 ∧ Det xs st s' 37 [.string s] (.string x) := by
  have hcv := fun W : World => fun x : Int => run_conv_new (P := Tryd.prog) Tryd.underlying22 Tryd.underlying5 Tryd.underlying9 W x
  by_cases hz : s.size = 0
  · obtain ⟨bs, s1, hl, D1⟩ := det_l1Text (xs := xs) st 3 (by omega)
    refine ⟨strOfNums bs, s1, by rw [strOfNums_size]; omega, fun B A n cap a w h => ?_⟩
    have HB := hide (D1 B A n cap a w h)
    have hz' : (s.size : Int) = 0 := by omega
    clear D1 h hcv
    go_enter Tryd.func37, Tryd.ntmps37
    go_wp2_with fail
    refine HB.out.mono ?_
    rintro e w1 ⟨rfl, ho, hc⟩
    go_wp2_with fail
    go_ret
    exact ⟨rfl, ho, hc⟩
  obtain ⟨k0, s1, hk0, hk1, D1⟩ := det_l1Below (xs := xs) st (s.size : Int) (by omega) (by omega)
  obtain ⟨k, rfl⟩ : ∃ k : Nat, k0 = (k : Int) := ⟨k0.toNat, by omega⟩
  obtain ⟨q, s2, hq0, hq1, D2⟩ := det_l1Below (xs := xs) s1 4 (by omega) (by omega)
  have hk : k < s.size := by omega
  have c0 : (0 : Int) ≤ (k : Int) := by omega
  have c1 : (k : Int) ≤ (s.size : Int) := by omega
  have c2 : (k : Int) + 1 ≤ (s.size : Int) := by omega
  have c3 : (0 : Int) ≤ (k : Int) + 1 := by omega
  have c4 : wrap64 ((k : Int) + 1) = (k : Int) + 1 := by rw [wrap64]; omega
  have z0 : (s.extract 0 k).size ≤ 100 := by simp; omega
  have z1 : (s.extract (k + 1) s.size).size ≤ 100 := by simp; omega
  have z2 : (s.extract k s.size).size ≤ 100 := by simp; omega
  have z3 : ∀ x : Int, (strOfNums [x]).size = 1 := fun x => by rw [strOfNums_size]; rfl
  have hz' : ¬ (s.size : Int) = 0 := by omega
  have d1 : ¬ 9223372036854775807 < min k s.size + 1 := by omega
  have d2 : ¬ 9223372036854775807 < min k s.size + 1 + (s.size - k) := by omega
  have d3 : ¬ 9223372036854775807 < min k s.size + 1 + (s.size - (k + 1)) := by omega
  by_cases q0 : q = 0
  · subst q0
    refine ⟨s.extract 0 k ++ s.extract (k + 1) s.size, s2, by rw [ByteArray.size_append]; simp; omega, fun B A n cap a w h => ?_⟩
    have HB := hide (D1 B A n cap a w h)
    have H2 := hide D2
    clear D1 D2 h hcv hk0 hk1 hq0 hq1
    go_enter Tryd.func37, Tryd.ntmps37
    go_wp2_with fail
    refine HB.out.mono ?_
    rintro e w1 ⟨rfl, ho, hc⟩
    go_wp2_with fail
    refine (H2.out B A n cap a w1 hc).mono ?_
    rintro e w2 ⟨rfl, ho2, hc2⟩
    have HO := hide (ho.trans ho2)
    have HC := hide hc2
    clear ho hc ho2 hc2 HB H2
    go_wp2_with fail
    go_quiet (fail)
    go_wp2_with fail
    go_ret
    exact ⟨rfl, HO.out.drewN _, HC.out.below (below_drewN (Below.refl _ _) _)⟩
  have b0 : (q == 0) = false := by simpa using q0
  by_cases q1 : q = 1
  · subst q1
    obtain ⟨x, hx⟩ : ∃ x, dB xs s2 = x := ⟨_, rfl⟩
    have D3 := det_l1Byte (xs := xs) s2
    have hb := dB_in (xs := xs) s2
    rw [hx] at D3 hb
    obtain ⟨hx0, hx1⟩ := hb
    have d0 : IntKind.u8.wrap x = x := u8_wrap hx0 hx1
    refine ⟨s.extract 0 k ++ strOfNums [x] ++ s.extract k s.size, dS xs s2, by rw [ByteArray.size_append, ByteArray.size_append, z3]; simp; omega, fun B A n cap a w h => ?_⟩
    have HB := hide (D1 B A n cap a w h)
    have H2 := hide D2
    have H3 := hide D3
    clear D1 D2 D3 h hk0 hk1 hq0 hq1 hx q0
    go_enter Tryd.func37, Tryd.ntmps37
    go_wp2_with fail
    refine HB.out.mono ?_
    rintro e w1 ⟨rfl, ho, hc⟩
    go_wp2_with fail
    refine (H2.out B A n cap a w1 hc).mono ?_
    rintro e w2 ⟨rfl, ho2, hc2⟩
    have HO := hide (ho.trans ho2)
    have HC := hide hc2
    clear ho hc ho2 hc2 HB H2
    go_wp2_with fail
    go_region_law (first
      | (go_simp; go_at_call 50; refine (H3.out B A n cap a w2.drew HC.out.drewO).mono ?_; rintro e w3 ⟨rfl, ho3, hc3⟩; have HO3 := hide (HO.out.trans (only_undrew ho3)); have HC3 := hide hc3; clear ho3 hc3))
    all_goals go_wp2_with fail
    all_goals go_ret
    all_goals exact ⟨rfl, HO3.out.trans (Only.of_below ((Below.refl _ _).alloc (Nat.le_refl _) _)), HC3.out.below ((Below.refl _ _).alloc (Nat.le_refl _) _)⟩
  have b1 : (q == 1) = false := by simpa using q1
  by_cases q2 : q = 2
  · subst q2
    refine ⟨s.extract 0 k, s2, by simp; omega, fun B A n cap a w h => ?_⟩
    have HB := hide (D1 B A n cap a w h)
    have H2 := hide D2
    clear D1 D2 h hcv hk0 hk1 hq0 hq1 q0 q1
    go_enter Tryd.func37, Tryd.ntmps37
    go_wp2_with fail
    refine HB.out.mono ?_
    rintro e w1 ⟨rfl, ho, hc⟩
    go_wp2_with fail
    refine (H2.out B A n cap a w1 hc).mono ?_
    rintro e w2 ⟨rfl, ho2, hc2⟩
    have HO := hide (ho.trans ho2)
    have HC := hide hc2
    clear ho hc ho2 hc2 HB H2
    go_wp2_with fail
    go_ret
    exact ⟨rfl, HO.out, HC.out⟩
  have b2 : (q == 2) = false := by simpa using q2
  obtain ⟨y, s3, hy0, hy1, D3⟩ := det_l1Below (xs := xs) s2 255 (by omega) (by omega)
  obtain ⟨c, hc⟩ : ∃ c : UInt8, s[k] = c := ⟨_, rfl⟩
  have hc8 := c.toNat_lt
  have e1 : IntKind.i64.wrap ((k : Int) + 1) = (k : Int) + 1 := by rw [IntKind.wrap_i64]; omega
  have e2 : IntKind.i64.wrap (c.toNat : Int) = (c.toNat : Int) := by rw [IntKind.wrap_i64]; omega
  have e3 : IntKind.i64.wrap (1 + y) = 1 + y := by rw [IntKind.wrap_i64]; omega
  refine ⟨s.extract 0 k ++ strOfNums [IntKind.u8.wrap (bits .xor .i64 (c.toNat : Int) (1 + y))] ++ s.extract (k + 1) s.size, s3, by rw [ByteArray.size_append, ByteArray.size_append, z3]; simp; omega, fun B A n cap a w h => ?_⟩
  have HB := hide (D1 B A n cap a w h)
  have H2 := hide D2
  have H3 := hide D3
  clear D1 D2 D3 h hk0 hk1 hq0 hq1 q0 q1 q2
  go_enter Tryd.func37, Tryd.ntmps37
  go_wp2_with fail
  refine HB.out.mono ?_
  rintro e w1 ⟨rfl, ho, hc⟩
  go_wp2_with fail
  refine (H2.out B A n cap a w1 hc).mono ?_
  rintro e w2 ⟨rfl, ho2, hc2⟩
  have HO := hide (ho.trans ho2)
  have HC := hide hc2
  clear ho hc ho2 hc2 HB H2
  go_wp2_with fail
  go_region_law (first
    | (go_simp; go_at_call 36; refine (H3.out B A n cap a w2.drew HC.out.drewO).mono ?_; rintro e w3 ⟨rfl, ho3, hc3⟩; have HO3 := hide (HO.out.trans (only_undrew ho3)); have HC3 := hide hc3; clear ho3 hc3))
  all_goals go_wp2_with fail
  all_goals go_ret
  all_goals exact ⟨rfl, HO3.out.trans (Only.of_below ((Below.refl _ _).alloc (Nat.le_refl _) _)), HC3.out.below ((Below.refl _ _).alloc (Nat.le_refl _) _)⟩
end Go.Proofs.YtgfieeonlhcnhaaDoor
