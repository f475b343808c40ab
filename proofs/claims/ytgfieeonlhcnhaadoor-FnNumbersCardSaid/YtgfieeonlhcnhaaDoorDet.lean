/-
  The cursor at a known place: what is drawn follows from the code alone.
-/
import Derived.Test.YtgfieeonlhcnhaaDoorDraw
namespace Go.Proofs.YtgfieeonlhcnhaaDoor
open Go.RowKit
set_option maxRecDepth 100000

/-- the code's bytes, by name -/
def BAx (w : World) (B : Nat) (A : Option Addr) (n c : Nat) (xs : List Int) : Prop :=
  n ≤ c ∧ n ≤ 1048576 ∧ xs.length = n ∧ (∀ j, j < n → 0 ≤ xs.getD j 0 ∧ xs.getD j 0 < 256) ∧ (0 < n → ∃ b off, A = some ⟨b, off, none⟩ ∧ b < B ∧ ∀ j, j < n → w.cell? ⟨b, off + j, none⟩ = some (.int .u8 (xs.getD j 0)))
theorem BA.x {w : World} {B n c : Nat} {A : Option Addr} (h : BA w B A n c) : ∃ xs, BAx w B A n c xs := by
  obtain ⟨h1, h2, xs, h3, h4, h5⟩ := h
  exact ⟨xs, h1, h2, h3, h4, h5⟩
theorem BAx.ba {w : World} {B n c : Nat} {A : Option Addr} {xs : List Int} (h : BAx w B A n c xs) : BA w B A n c := by
  obtain ⟨h1, h2, h3, h4, h5⟩ := h
  exact ⟨h1, h2, xs, h3, h4, h5⟩
theorem BAx.at_ {w : World} {B n c : Nat} {A : Option Addr} {xs : List Int} (h : BAx w B A n c xs) {k : Nat} (hk : k < n) : ∃ b off, A = some ⟨b, off, none⟩ ∧ b < B ∧ 0 ≤ xs.getD k 0 ∧ xs.getD k 0 < 256 ∧ w.cell? ⟨b, off + k, none⟩ = some (.int .u8 (xs.getD k 0)) := by
  obtain ⟨_, _, hl, hx, hc⟩ := h
  obtain ⟨b, off, hA, hb, hc⟩ := hc (by omega)
  exact ⟨b, off, hA, hb, (hx k hk).1, (hx k hk).2, hc k hk⟩
theorem BAx.below {w w' : World} {B n c : Nat} {A : Option Addr} {xs : List Int} (h : BAx w B A n c xs) (hb : Below B w w') : BAx w' B A n c xs := by
  obtain ⟨h1, h2, hl, hx, hc⟩ := h
  refine ⟨h1, h2, hl, hx, fun hn => ?_⟩
  obtain ⟨b, off, hA, hbl, hc⟩ := hc hn
  exact ⟨b, off, hA, hbl, fun j hj => (hb.cell (show (⟨b, off + j, none⟩ : Addr).block < B from hbl)).trans (hc j hj)⟩
structure Cat (xs : List Int) (s : Nat × Int) (B : Nat) (A : Option Addr) (n cap a : Nat) (w : World) : Prop where
  base : B ≤ a
  le : s.1 ≤ n
  blk : ∃ t : TypeId, w.heap[a]? = some (box A n cap s.1 s.2 t)
  bytes : BAx w B A n cap xs
variable {xs : List Int}
section
variable {B n cap a : Nat} {A : Option Addr}
theorem Cat.cur {s : Nat × Int} {w : World} (h : Cat xs s B A n cap a w) : Cur B A n cap a w := by
  obtain ⟨h1, h2, ⟨t, h3⟩, h4⟩ := h
  exact ⟨h1, ⟨s.1, s.2, t, h2, h3⟩, h4.ba⟩
theorem cat_of {w : World} (h : Cur B A n cap a w) : ∃ xs s, Cat xs s B A n cap a w := by
  obtain ⟨h1, ⟨i, h0, t, hi, hh⟩, hb⟩ := h
  obtain ⟨xs, hx⟩ := hb.x
  exact ⟨xs, (i, h0), h1, hi, ⟨t, hh⟩, hx⟩
theorem Cat.lt {s : Nat × Int} {w : World} (h : Cat xs s B A n cap a w) : a < w.heap.size := h.cur.lt
theorem Cat.only {s : Nat × Int} {w w' : World} {p : Nat → Prop} (h : Cat xs s B A n cap a w) (ho : Only p w w') (hp : ∀ k, p k → B ≤ k ∧ k ≠ a) : Cat xs s B A n cap a w' := by
  have hlt := h.lt
  obtain ⟨h1, h2, ⟨t, hh⟩, hb⟩ := h
  exact ⟨h1, h2, ⟨t, (ho.block a hlt (fun hh => (hp _ hh).2 rfl)).trans hh⟩, hb.below (ho.below (by omega) (fun k hk hh => by have := (hp k hh).1; omega))⟩
theorem Cat.below {s : Nat × Int} {w w' : World} (h : Cat xs s B A n cap a w) (hb : Below w.heap.size w w') : Cat xs s B A n cap a w' := h.only (p := fun _ => False) (Only.of_below hb) (fun _ hh => hh.elim)
end
/-- what is drawn: always the same -/
def Det (xs : List Int) (s s' : Nat × Int) (f : FuncId) (args : List Value) (v : Value) : Prop :=
  ∀ (B : Nat) (A : Option Addr) (n cap a : Nat) (w : World), Cat xs s B A n cap a w →
    Calls Tryd.prog f (Value.pointer (some ⟨a, 0, none⟩) :: args).toArray w fun e w' => e = .returned v ∧ Only (fun b => b = a) w w' ∧ Cat xs s' B A n cap a w'
/-- the next state of the mix, and the byte -/
def mixH (h : Int) : Int := wrap64 (wrap64 (h * 6364136223846793005) + 1442695040888963407)
def mixB (h : Int) : Int := bits .and .i64 (bits .xor .i64 (h / 8589934592) (h / 35184372088832)) 255
def dB (xs : List Int) (s : Nat × Int) : Int := if s.1 < xs.length then bits .and .i64 (wrap64 (mixB (mixH s.2) + xs.getD s.1 0)) 255 else mixB (mixH s.2)
def dS (xs : List Int) (s : Nat × Int) : Nat × Int := (if s.1 < xs.length then s.1 + 1 else s.1, mixH s.2)
theorem det_end {B n cap a : Nat} {A : Option Addr} {s s' : Nat × Int} {w w' : World} (h : Cat xs s B A n cap a w) (ho : Only (fun b => b = a) w w') (hl : s'.1 ≤ n)
    (hh : ∃ t : TypeId, w'.heap[a]? = some (box A n cap s'.1 s'.2 t)) : Only (fun b => b = a) w w' ∧ Cat xs s' B A n cap a w' := by
  have hlt := h.lt
  have hb := h.base
  exact ⟨ho, hb, hl, hh, h.bytes.below (ho.below (by omega) (fun k hk e => by omega))⟩
theorem det_l1Byte (s : Nat × Int) : Det xs s (dS xs s) 50 [] (.int .i64 (dB xs s)) := by
  intro B A n cap a w h
  have HH := hide h
  obtain ⟨i, h0⟩ := s
  obtain ⟨hB, hi, ⟨t, hh⟩, hb⟩ := h
  simp only at hi hh
  have hn := hb.2.1
  have hln := hb.2.2.1
  obtain ⟨x0, x1, x2⟩ := box_cells hh
  have xf := box_free hh 2
  have y0 := fun u => (box_cells (box_set2 hh u)).1
  have y1 := fun u => (box_cells (box_set2 hh u)).2.1
  have y2 := fun u => (box_cells (box_set2 hh u)).2.2
  have yf := fun u => box_free (box_set2 hh u) 1
  by_cases hlt : i < n
  · obtain ⟨b, off, rfl, hbB, hx0, hx1, hc⟩ := hb.at_ hlt
    obtain ⟨x, hx⟩ : ∃ x, xs.getD i 0 = x := ⟨_, rfl⟩
    have HX := hide hx
    rw [hx] at hx0 hx1 hc
    clear hx
    have hcu : ∀ u, (w.setCell ⟨a, 2, none⟩ u).cell? ⟨b, off + i, none⟩ = some (.int .u8 x) := fun u => (World.cell?_setCell_far _ _ _ _ (by show a ≠ b; omega)).trans hc
    have HL := hide hln
    have HBX := hide hb
    clear hln hb
    go_enter Tryd.func50, Tryd.ntmps50
    go_wp2_with fail
    go_quiet (fail)
    go_wp2_with fail
    go_quiet (fail)
    go_wp2_with fail
    go_quiet (fail)
    go_wp2_with fail
    go_ret
    have e : (i, h0).1 < xs.length := by rw [HL.out]; exact hlt
    have e2 : dB xs (i, h0) = bits .and .i64 (wrap64 (mixB (mixH h0) + x)) 255 := by rw [dB, if_pos e, ← HX.out]
    refine ⟨by rw [e2]; rfl, det_end HH.out ?_ ?_ ?_⟩
    · exact Only.setCell (p := fun b => b = a) (((Only.refl (fun b => b = a) w).setCell rfl _).drewN _) rfl _
    · show (if (i, h0).1 < xs.length then i + 1 else i) ≤ n
      rw [if_pos e]; omega
    · refine ⟨t, ?_⟩
      show _ = some (box _ _ _ (((if (i, h0).1 < xs.length then i + 1 else i) : Nat) : Int) (mixH h0) t)
      have hq := box_set1 (box_set2 hh (mixH h0)) ((i : Int) + 1)
      rw [if_pos e, Int.natCast_add]
      exact hq
  · have h1 : n ≤ i := by omega
    have HL := hide hln
    have HBX := hide hb
    clear hln hb
    go_enter Tryd.func50, Tryd.ntmps50
    go_wp2_with fail
    go_quiet (fail)
    go_wp2_with fail
    go_quiet (fail)
    go_wp2_with fail
    go_ret
    have e : ¬ (i, h0).1 < xs.length := by rw [HL.out]; exact hlt
    have e2 : dB xs (i, h0) = mixB (mixH h0) := by rw [dB, if_neg e]
    refine ⟨by rw [e2]; rfl, det_end HH.out ?_ ?_ ?_⟩
    · exact ((((Only.refl (fun b => b = a) w).setCell rfl _).drewN _).drewN _)
    · show (if (i, h0).1 < xs.length then i + 1 else i) ≤ n
      rw [if_neg e]; omega
    · refine ⟨t, ?_⟩
      show _ = some (box _ _ _ (((if (i, h0).1 < xs.length then i + 1 else i) : Nat) : Int) (mixH h0) t)
      have hq := box_set2 hh (mixH h0)
      rw [if_neg e]
      exact hq
theorem dB_in (s : Nat × Int) : 0 ≤ dB xs s ∧ dB xs s ≤ 255 := by
  unfold dB mixB
  split <;> (rw [mask255]; omega)
theorem det_l1Below (s : Nat × Int) (m : Int) (h1 : 1 ≤ m) (h2 : m ≤ 1000000000) : ∃ x s', 0 ≤ x ∧ x ≤ m - 1 ∧ Det xs s s' 36 [.int .i64 m] (.int .i64 x) := by
  by_cases hm : m ≤ 256
  · obtain ⟨x, hx⟩ : ∃ x, dB xs s = x := ⟨_, rfl⟩
    have HD := det_l1Byte (xs := xs) s
    have hb := dB_in (xs := xs) s
    rw [hx] at HD hb
    clear hx
    generalize dS xs s = s1 at HD
    have hq := tmod_in x m hb.1 h1
    obtain ⟨q, hq1⟩ : ∃ q, x.tmod m = q := ⟨_, rfl⟩
    rw [hq1] at hq
    obtain ⟨hx0, hx1⟩ := hb
    refine ⟨q, s1, hq.1, by omega, fun B A n cap a w h => ?_⟩
    have HB := hide (HD B A n cap a w h)
    clear HD h
    go_enter Tryd.func36, Tryd.ntmps36
    go_wp2_with fail
    refine HB.out.mono ?_
    rintro e w1 ⟨rfl, ho, hc⟩
    have HC := hide hc
    have HO := hide ho
    clear hc ho HB
    go_wp2_with fail
    go_ret
    exact ⟨rfl, HO.out, HC.out⟩
  · obtain ⟨x, hx⟩ : ∃ x, dB xs s = x := ⟨_, rfl⟩
    have D1 := det_l1Byte (xs := xs) s
    have b1 := dB_in (xs := xs) s
    rw [hx] at D1 b1
    clear hx
    generalize dS xs s = s1 at D1
    obtain ⟨y, hx⟩ : ∃ x, dB xs s1 = x := ⟨_, rfl⟩
    have D2 := det_l1Byte (xs := xs) s1
    have b2 := dB_in (xs := xs) s1
    rw [hx] at D2 b2
    clear hx
    generalize dS xs s1 = s2 at D2
    obtain ⟨z, hx⟩ : ∃ x, dB xs s2 = x := ⟨_, rfl⟩
    have D3 := det_l1Byte (xs := xs) s2
    have b3 := dB_in (xs := xs) s2
    rw [hx] at D3 b3
    clear hx
    generalize dS xs s2 = s3 at D3
    obtain ⟨u, hx⟩ : ∃ x, dB xs s3 = x := ⟨_, rfl⟩
    have D4 := det_l1Byte (xs := xs) s3
    have b4 := dB_in (xs := xs) s3
    rw [hx] at D4 b4
    clear hx
    generalize dS xs s3 = s4 at D4
    obtain ⟨hx0, hx1⟩ := b1
    obtain ⟨hy0, hy1⟩ := b2
    obtain ⟨hz0, hz1⟩ := b3
    obtain ⟨hu0, hu1⟩ := b4
    obtain ⟨v, hv⟩ : ∃ v, x * 16777216 + y * 65536 + z * 256 + u = v := ⟨_, rfl⟩
    have hs0 : 0 ≤ v := by omega
    have hq := tmod_in v m hs0 h1
    obtain ⟨q, hq1⟩ : ∃ q, v.tmod m = q := ⟨_, rfl⟩
    rw [hq1] at hq
    refine ⟨q, s4, hq.1, by omega, fun B A n cap a w h => ?_⟩
    have HB := hide (D1 B A n cap a w h)
    have D2 := hide D2
    have D3 := hide D3
    have D4 := hide D4
    clear D1 h
    go_enter Tryd.func36, Tryd.ntmps36
    go_wp2_with fail
    refine HB.out.mono ?_
    rintro e w1 ⟨rfl, ho, hc⟩
    go_wp2_with fail
    refine (D2.out B A n cap a w1 hc).mono ?_
    rintro e w2 ⟨rfl, ho2, hc2⟩
    replace ho := ho.trans ho2
    clear hc ho2
    go_wp2_with fail
    refine (D3.out B A n cap a w2 hc2).mono ?_
    rintro e w3 ⟨rfl, ho2, hc3⟩
    replace ho := ho.trans ho2
    clear hc2 ho2
    go_wp2_with fail
    refine (D4.out B A n cap a w3 hc3).mono ?_
    rintro e w4 ⟨rfl, ho2, hc4⟩
    have HO := hide (ho.trans ho2)
    have HC := hide hc4
    clear hc3 ho2 ho hc4 HB D2 D3 D4
    go_wp2_with fail
    go_ret
    exact ⟨rfl, HO.out, HC.out⟩
theorem det_l1Once (s : Nat × Int) (m : Int) (h1 : 1 ≤ m) (h2 : m ≤ 1000000) : ∃ b s', Det xs s s' 46 [.int .i64 m] (.bool b) := by
  obtain ⟨x, s1, hx0, hx1, D⟩ := det_l1Below (xs := xs) s m h1 (by omega)
  refine ⟨x == 0, s1, fun B A n cap a w h => ?_⟩
  have HB := hide (D B A n cap a w h)
  clear D h hx0 hx1
  go_enter Tryd.func46, Tryd.ntmps46
  go_wp2_with fail
  refine HB.out.mono ?_
  rintro e w1 ⟨rfl, ho, hc⟩
  go_wp2_with fail
  go_ret
  exact ⟨rfl, ho, hc⟩
/-- a pick among numbers just made -/
theorem det_pick (s : Nat × Int) (us : List Int) {m : Nat} {lo hi : Int} (hm : us.length = m) (h1 : 1 ≤ m) (h2 : m ≤ 1000) (hxs : ∀ j, j < m → lo ≤ us.getD j 0 ∧ us.getD j 0 ≤ hi) :
    ∃ y s', lo ≤ y ∧ y ≤ hi ∧ ∀ (B : Nat) (A : Option Addr) (n cap a : Nat) (w : World) (t : TypeId), Cat xs s B A n cap a w →
      Calls Tryd.prog 47 #[.pointer (some ⟨a, 0, none⟩), .slice (some ⟨w.heap.size, 0, none⟩) m m] (w.alloc (.cells (us.map (Value.int .i64)).toArray t)) fun e w' => e = .returned (.int .i64 y) ∧ Only (fun b => b = a) w w' ∧ Cat xs s' B A n cap a w' := by
  obtain ⟨x, s1, hx0, hx1, D⟩ := det_l1Below (xs := xs) s (m : Int) (by omega) (by omega)
  obtain ⟨k, rfl⟩ : ∃ k : Nat, x = (k : Int) := ⟨x.toNat, by omega⟩
  have hk : k < m := by omega
  have hb := hxs k hk
  obtain ⟨y, hy⟩ : ∃ y, us.getD k 0 = y := ⟨_, rfl⟩
  rw [hy] at hb
  refine ⟨y, s1, hb.1, hb.2, fun B A n cap a w t h => ?_⟩
  have hbw : Below w.heap.size w (w.alloc (.cells (us.map (Value.int .i64)).toArray t)) := (Below.refl _ _).alloc (Nat.le_refl _) _
  have hlt := h.lt
  have HB := hide (D B A n cap a _ (h.below hbw))
  have hcell := pick_new (w := w) (t := t) hm h2 k hk
  rw [hy] at hcell
  have hsz : (w.alloc (.cells (us.map (Value.int .i64)).toArray t)).heap.size = w.heap.size + 1 := by simp
  obtain ⟨W, hW⟩ : ∃ W, W = w.alloc (.cells (us.map (Value.int .i64)).toArray t) := ⟨_, rfl⟩
  rw [← hW] at hbw HB hcell hsz ⊢
  have hbl : w.heap.size < W.heap.size := by omega
  have hne : w.heap.size ≠ a := by omega
  have HW := hide (show Only (fun b => b = a) w W from Only.of_below hbw)
  clear D h hy hxs hbw hW hsz hlt
  go_enter Tryd.func47, Tryd.ntmps47
  go_wp2_with fail
  refine HB.out.mono ?_
  rintro e w1 ⟨rfl, ho, hc⟩
  have hv := (ho.cell (a := ⟨w.heap.size, 0 + k, none⟩) hbl hne).trans hcell
  clear hcell
  rw [Nat.zero_add] at hv
  go_wp2_with fail
  go_ret
  exact ⟨rfl, HW.out.trans ho, hc⟩
theorem mul_in {x y : Int} (hx0 : 0 ≤ x) (hx1 : x ≤ 999999999) (hy0 : 0 ≤ y) (hy1 : y ≤ 999999999) : 0 ≤ x * y ∧ x * y ≤ 999999998000000001 :=
  ⟨Int.mul_nonneg hx0 hy0, Int.le_trans (Int.mul_le_mul hx1 hy1 hy0 (by omega)) (by decide)⟩
theorem det_l1Num (s : Nat × Int) : ∃ x s', -9223372036854775808 ≤ x ∧ x ≤ 9223372036854775807 ∧ Det xs s s' 42 [] (.int .i64 x) := by
  obtain ⟨x, s1, hx0, hx1, D1⟩ := det_l1Below (xs := xs) s 8 (by omega) (by omega)
  by_cases x0 : x = 0
  · subst x0
    obtain ⟨y, s2, hy0, hy1, D2⟩ := det_pick (xs := xs) s1 [-1, 0, 127, 128, 255, 256, 16383, 16384, 65535, 65536, 562949953421311, 562949953421312, 999999999, 1000000000, -999999999, 9223372036854775807, -9223372036854775808] (m := 17) rfl (lo := -9223372036854775808) (hi := 9223372036854775807) (by omega) (by omega) (by decide)
    refine ⟨y, s2, hy0, hy1, fun B A n cap a w h => ?_⟩
    have HB := hide (D1 B A n cap a w h)
    have H2 := hide D2
    clear D1 D2 h hx0 hx1
    go_enter Tryd.func42, Tryd.ntmps42
    go_wp2_with fail
    refine HB.out.mono ?_
    rintro e w1 ⟨rfl, ho, hc⟩
    have HO := hide ho
    have HC := hide hc
    clear ho hc HB
    go_wp2_with fail
    refine (H2.out B A n cap a _ _ HC.out).mono ?_
    rintro e w2 ⟨rfl, ho2, hc2⟩
    go_wp2_with fail
    go_ret
    exact ⟨rfl, HO.out.trans ho2, hc2⟩
  have b0 : (x == 0) = false := by simpa using x0
  by_cases x1 : x = 1
  · subst x1
    obtain ⟨y, s2, hy0, hy1, D2⟩ := det_l1Below (xs := xs) s1 1000000000 (by omega) (by omega)
    obtain ⟨z, s3, hz0, hz1, D3⟩ := det_l1Below (xs := xs) s2 1000000000 (by omega) (by omega)
    have hm := mul_in hy0 (by omega) hz0 (by omega)
    obtain ⟨q, hq⟩ : ∃ q, y * z = q := ⟨_, rfl⟩
    rw [hq] at hm
    obtain ⟨hm0, hm1⟩ := hm
    refine ⟨q, s3, by omega, by omega, fun B A n cap a w h => ?_⟩
    have HB := hide (D1 B A n cap a w h)
    have H2 := hide D2
    have H3 := hide D3
    clear D1 D2 D3 h hx0 hx1 x0
    go_enter Tryd.func42, Tryd.ntmps42
    go_wp2_with fail
    refine HB.out.mono ?_
    rintro e w1 ⟨rfl, ho, hc⟩
    have HO := hide ho
    clear ho HB
    go_wp2_with fail
    refine (H2.out B A n cap a _ hc).mono ?_
    rintro e w2 ⟨rfl, ho2, hc2⟩
    go_wp2_with fail
    refine (H3.out B A n cap a _ hc2).mono ?_
    rintro e w3 ⟨rfl, ho3, hc3⟩
    have HO3 := hide ((HO.out.trans ho2).trans ho3)
    have HC3 := hide hc3
    clear ho2 ho3 hc hc2 hc3 HO H2 H3
    go_wp2_with fail
    go_ret
    exact ⟨rfl, HO3.out, HC3.out⟩
  have b1 : (x == 1) = false := by simpa using x1
  by_cases x2 : x = 2
  · subst x2
    obtain ⟨y, s2, hy0, hy1, D2⟩ := det_l1Below (xs := xs) s1 100000 (by omega) (by omega)
    refine ⟨-y, s2, by omega, by omega, fun B A n cap a w h => ?_⟩
    have HB := hide (D1 B A n cap a w h)
    have H2 := hide D2
    clear D1 D2 h hx0 hx1 x0 x1
    go_enter Tryd.func42, Tryd.ntmps42
    go_wp2_with fail
    refine HB.out.mono ?_
    rintro e w1 ⟨rfl, ho, hc⟩
    have HO := hide ho
    clear ho HB
    go_wp2_with fail
    refine (H2.out B A n cap a _ hc).mono ?_
    rintro e w2 ⟨rfl, ho2, hc2⟩
    go_wp2_with fail
    go_ret
    exact ⟨rfl, HO.out.trans ho2, hc2⟩
  have b2 : (x == 2) = false := by simpa using x2
  obtain ⟨y, s2, hy0, hy1, D2⟩ := det_l1Below (xs := xs) s1 70000 (by omega) (by omega)
  refine ⟨y, s2, by omega, by omega, fun B A n cap a w h => ?_⟩
  have HB := hide (D1 B A n cap a w h)
  have H2 := hide D2
  clear D1 D2 h hx0 hx1 x0 x1 x2
  go_enter Tryd.func42, Tryd.ntmps42
  go_wp2_with fail
  refine HB.out.mono ?_
  rintro e w1 ⟨rfl, ho, hc⟩
  have HO := hide ho
  clear ho HB
  go_wp2_with fail
  refine (H2.out B A n cap a _ hc).mono ?_
  rintro e w2 ⟨rfl, ho2, hc2⟩
  go_wp2_with fail
  go_ret
  exact ⟨rfl, HO.out.trans ho2, hc2⟩
end Go.Proofs.YtgfieeonlhcnhaaDoor
