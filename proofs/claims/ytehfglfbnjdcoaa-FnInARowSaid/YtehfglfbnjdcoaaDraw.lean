/-
  The cursor over a code's bytes, and what is drawn with it: bounds only.
-/
import Derived.Test.YtehfglfbnjdcoaaOwn
import Derived.Test.YtehfglfbnjdcoaaFix
import Derived.Laws.Bits128
import Derived.Deep.Draws
import Derived.Deep.RegionHeld
import Derived.Test.YtehfglfbnjdcoaaVec
namespace Go.Proofs.Ytehfglfbnjdcoaa
open Go.RowKit
set_option maxRecDepth 100000

/-- A slice of bytes -/
def BA (w : World) (B : Nat) (A : Option Addr) (n c : Nat) : Prop :=
  n ≤ c ∧ n ≤ 1048576 ∧ ∃ xs : List Int, xs.length = n ∧ (∀ j, j < n → 0 ≤ xs.getD j 0 ∧ xs.getD j 0 < 256) ∧ (0 < n → ∃ b off, A = some ⟨b, off, none⟩ ∧ b < B ∧ ∀ j, j < n → w.cell? ⟨b, off + j, none⟩ = some (.int .u8 (xs.getD j 0)))
theorem BA.at_ {w : World} {B n c : Nat} {A : Option Addr} (h : BA w B A n c) {k : Nat} (hk : k < n) : ∃ b off x, A = some ⟨b, off, none⟩ ∧ b < B ∧ 0 ≤ x ∧ x < 256 ∧ w.cell? ⟨b, off + k, none⟩ = some (.int .u8 x) := by
  obtain ⟨_, _, xs, hl, hx, hc⟩ := h
  obtain ⟨b, off, hA, hb, hc⟩ := hc (by omega)
  exact ⟨b, off, _, hA, hb, (hx k hk).1, (hx k hk).2, hc k hk⟩
theorem BA.keep {w w' : World} {B n c : Nat} {A : Option Addr} (h : BA w B A n c) (hk : ∀ a : Addr, a.block < B → w'.cell? a = w.cell? a) : BA w' B A n c := by
  obtain ⟨h1, h2, xs, hl, hx, hc⟩ := h
  refine ⟨h1, h2, xs, hl, hx, fun hn => ?_⟩
  obtain ⟨b, off, hA, hb, hc⟩ := hc hn
  exact ⟨b, off, hA, hb, fun j hj => (hk _ hb).trans (hc j hj)⟩
theorem BA.below {w w' : World} {B n c : Nat} {A : Option Addr} (h : BA w B A n c) (hb : Below B w w') : BA w' B A n c := h.keep fun _ ha => hb.cell ha

/-- the cursor's box -/
def box (A : Option Addr) (n cap : Nat) (i h : Int) (t : TypeId) : Obj := .cells #[.slice A n cap, .int .i64 i, .int .i64 h] t (0, 0)
structure Cur (B : Nat) (A : Option Addr) (n cap : Nat) (a : Nat) (w : World) : Prop where
  base : B ≤ a
  blk : ∃ (i : Nat) (h : Int) (t : TypeId), i ≤ n ∧ w.heap[a]? = some (box A n cap i h t)
  bytes : BA w B A n cap
theorem Cur.lt {B n cap a : Nat} {A : Option Addr} {w : World} (h : Cur B A n cap a w) : a < w.heap.size := by
  obtain ⟨i, h0, t, _, hh⟩ := h.blk
  exact (Array.getElem?_eq_some_iff.1 hh).1
theorem Cur.only {B n cap a : Nat} {A : Option Addr} {w w' : World} {p : Nat → Prop} (h : Cur B A n cap a w) (ho : Only p w w') (hp : ∀ k, p k → B ≤ k ∧ k ≠ a) : Cur B A n cap a w' := by
  have hlt := h.lt
  obtain ⟨i, h0, t, hi, hh⟩ := h.blk
  refine ⟨h.base, ⟨i, h0, t, hi, (ho.block a hlt (fun hh => (hp _ hh).2 rfl)).trans hh⟩, h.bytes.below (ho.below (by have := h.base; omega) (fun k hk hh => by have := (hp k hh).1; omega))⟩
theorem Cur.below {B n cap a : Nat} {A : Option Addr} {w w' : World} (h : Cur B A n cap a w) (hb : Below w.heap.size w w') : Cur B A n cap a w' := h.only (p := fun _ => False) (Only.of_below hb) (fun _ hh => hh.elim)
theorem Only.setCell {w w' : World} {p : Nat → Prop} (h : Only p w w') {a : Addr} (ha : p a.block) (u : Value) : Only p w (w'.setCell a u) :=
  h.trans ⟨rfl, rfl, rfl, by simp [World.setCell], fun k _ hn => Below.heap_setCell _ _ _ _ (fun e => hn (e ▸ ha))⟩
theorem box_set1 {w : World} {a n cap : Nat} {A : Option Addr} {i h : Int} {t : TypeId} (hh : w.heap[a]? = some (box A n cap i h t)) (i' : Int) : (w.setCell ⟨a, 1, none⟩ (.int .i64 i')).heap[a]? = some (box A n cap i' h t) := by
  simp [World.setCell, Array.getElem?_modify, hh, box]
theorem box_set2 {w : World} {a n cap : Nat} {A : Option Addr} {i h : Int} {t : TypeId} (hh : w.heap[a]? = some (box A n cap i h t)) (h' : Int) : (w.setCell ⟨a, 2, none⟩ (.int .i64 h')).heap[a]? = some (box A n cap i h' t) := by
  simp [World.setCell, Array.getElem?_modify, hh, box]
theorem box_free {w : World} {a n cap : Nat} {A : Option Addr} {i h : Int} {t : TypeId} (hh : w.heap[a]? = some (box A n cap i h t)) (j : Nat) : w.frozen? ⟨a, j, none⟩ = false := by simp [World.frozen?, hh, box]
theorem box_cells {w : World} {a n cap : Nat} {A : Option Addr} {i h : Int} {t : TypeId} (hh : w.heap[a]? = some (box A n cap i h t)) :
    w.cell? ⟨a, 0, none⟩ = some (.slice A n cap) ∧ w.cell? ⟨a, 1, none⟩ = some (.int .i64 i) ∧ w.cell? ⟨a, 2, none⟩ = some (.int .i64 h) := by
  refine ⟨?_, ?_, ?_⟩ <;> simp [World.cell?, hh, box]

/-- what is drawn is a number from lo to hi; of what was there only the cursor has turned -/
def Drawn (B : Nat) (A : Option Addr) (n cap a : Nat) (w : World) (lo hi : Int) (e : Ending) (w' : World) : Prop :=
  ∃ x, e = .returned (.int .i64 x) ∧ lo ≤ x ∧ x ≤ hi ∧ Only (fun b => b = a) w w' ∧ Cur B A n cap a w'

theorem tmod_in (x m : Int) (h0 : 0 ≤ x) (h1 : 1 ≤ m) : 0 ≤ x.tmod m ∧ x.tmod m < m := by
  rw [Int.tmod_eq_emod_of_nonneg h0]
  exact ⟨Int.emod_nonneg _ (by omega), Int.emod_lt_of_pos _ (by omega)⟩
theorem div_in (y z : Int) (h0 : -8 ≤ y) (h1 : y ≤ 8) : -524288 ≤ (y * 65536).tdiv z ∧ (y * 65536).tdiv z ≤ 524288 := by
  have h := Int.natAbs_tdiv_le_natAbs (y * 65536) z
  omega
theorem drawn_end {B n cap a : Nat} {A : Option Addr} {w w' : World} {lo hi x : Int} (hB : B ≤ a) (hb : BA w B A n cap) (hw : B ≤ w.heap.size) (h1 : lo ≤ x) (h2 : x ≤ hi) (ho : Only (fun b => b = a) w w')
    (hh : ∃ (i : Nat) (h : Int) (t : TypeId), i ≤ n ∧ w'.heap[a]? = some (box A n cap i h t)) : Drawn B A n cap a w lo hi (.returned (.int .i64 x)) w' :=
  ⟨x, rfl, h1, h2, ho, hB, hh, hb.below (ho.below hw (fun k hk e => by omega))⟩
theorem mask255 (n : Int) : bits .and .i64 n 255 = n % 256 := by
  have h255 : (BitVec.ofInt 64 255).toNat = 2 ^ 8 - 1 := by decide
  have key : (BitVec.ofInt 64 n &&& BitVec.ofInt 64 255).toNat = (n % ((2 ^ 64 : Nat) : Int)).toNat % 2 ^ 8 := by
    rw [BitVec.toNat_and, BitVec.toNat_ofInt, h255, Nat.and_two_pow_sub_one_eq_mod]
  show IntKind.i64.wrap ((BitVec.ofInt 64 n &&& BitVec.ofInt 64 255).toNat : Nat) = n % 256
  rw [key, IntKind.wrap_i64]
  omega
section
variable {B n cap a : Nat} {A : Option Addr}
theorem spec_l1Byte (w : World) (h : Cur B A n cap a w) : Calls Try.prog 158 #[.pointer (some ⟨a, 0, none⟩)] w (Drawn B A n cap a w 0 255) := by
  have hB' : B ≤ w.heap.size := by have := h.lt; have := h.base; omega
  obtain ⟨hB, ⟨i, h0, t, hi, hh⟩, hb⟩ := h
  obtain ⟨x0, x1, x2⟩ := box_cells hh
  have xf := box_free hh 2
  have y0 := fun u => (box_cells (box_set2 hh u)).1
  have y1 := fun u => (box_cells (box_set2 hh u)).2.1
  have y2 := fun u => (box_cells (box_set2 hh u)).2.2
  have yf := fun u => box_free (box_set2 hh u) 1
  by_cases hlt : i < n
  · obtain ⟨b, off, x, rfl, hbB, hx0, hx1, hc⟩ := hb.at_ hlt
    have hcu : ∀ u, (w.setCell ⟨a, 2, none⟩ u).cell? ⟨b, off + i, none⟩ = some (.int .u8 x) := fun u => (World.cell?_setCell_far _ _ _ _ (by show a ≠ b; omega)).trans hc
    have hn := hb.2.1
    go_enter Try.func158, Try.ntmps158
    go_wp2_with fail
    go_quiet (fail)
    go_wp2_with fail
    go_quiet (fail)
    go_wp2_with fail
    go_quiet (fail)
    go_wp2_with fail
    go_ret
    refine drawn_end hB hb hB' (by rw [mask255]; omega) (by rw [mask255]; omega) ?_ ⟨i + 1, _, t, by omega, box_set1 (box_set2 hh _) _⟩
    exact Only.setCell (p := fun b => b = a) (((Only.refl (fun b => b = a) w).setCell rfl _).drewN _) rfl _
  · have h1 : n ≤ i := by omega
    have hn := hb.2.1
    go_enter Try.func158, Try.ntmps158
    go_wp2_with fail
    go_quiet (fail)
    go_wp2_with fail
    go_quiet (fail)
    go_wp2_with fail
    go_ret
    refine drawn_end hB hb hB' (by rw [mask255]; omega) (by rw [mask255]; omega) ?_ ⟨i, _, t, hi, box_set2 hh _⟩
    exact ((((Only.refl (fun b => b = a) w).setCell rfl _).drewN _).drewN _)
/-- below n, n within 1 to 256 or, for a greater one, by four bytes -/
theorem spec_l1Below (m : Int) (w : World) (h : Cur B A n cap a w) (h1 : 1 ≤ m) (h2 : m ≤ 1000000) : Calls Try.prog 152 #[.pointer (some ⟨a, 0, none⟩), .int .i64 m] w (Drawn B A n cap a w 0 (m - 1)) := by
  by_cases hm : m ≤ 256
  · have HB := hide (spec_l1Byte w h)
    clear h
    go_enter Try.func152, Try.ntmps152
    go_wp2_with fail
    refine HB.out.mono ?_
    rintro e w1 ⟨x, rfl, hx0, hx1, ho, hc⟩
    have hq := tmod_in x m hx0 h1
    obtain ⟨q, hq1⟩ : ∃ q, x.tmod m = q := ⟨_, rfl⟩
    rw [hq1] at hq
    have HC := hide hc
    have HO := hide ho
    clear hc ho
    go_wp2_with fail
    go_ret
    exact ⟨q, rfl, hq.1, by omega, HO.out, HC.out⟩
  · have HB := hide (spec_l1Byte w h)
    clear h
    go_enter Try.func152, Try.ntmps152
    go_wp2_with fail
    refine HB.out.mono ?_
    rintro e w1 ⟨x, rfl, hx0, hx1, ho, hc⟩
    go_wp2_with fail
    refine (spec_l1Byte w1 hc).mono ?_
    rintro e w2 ⟨y, rfl, hy0, hy1, ho2, hc2⟩
    replace ho := ho.trans ho2
    clear hc ho2
    go_wp2_with fail
    refine (spec_l1Byte w2 hc2).mono ?_
    rintro e w3 ⟨z, rfl, hz0, hz1, ho2, hc3⟩
    replace ho := ho.trans ho2
    clear hc2 ho2
    go_wp2_with fail
    refine (spec_l1Byte w3 hc3).mono ?_
    rintro e w4 ⟨u, rfl, hu0, hu1, ho2, hc4⟩
    have HO := hide (ho.trans ho2)
    have HC := hide hc4
    clear hc3 ho2 ho hc4
    obtain ⟨s, hs⟩ : ∃ s, x * 16777216 + y * 65536 + z * 256 + u = s := ⟨_, rfl⟩
    have hs0 : 0 ≤ s := by omega
    have hq := tmod_in s m hs0 h1
    obtain ⟨q, hq1⟩ : ∃ q, s.tmod m = q := ⟨_, rfl⟩
    rw [hq1] at hq
    go_wp2_with fail
    go_ret
    exact ⟨q, rfl, hq.1, by omega, HO.out, HC.out⟩
theorem spec_l1Once (m : Int) (w : World) (h : Cur B A n cap a w) (h1 : 1 ≤ m) (h2 : m ≤ 1000000) : Calls Try.prog 122 #[.pointer (some ⟨a, 0, none⟩), .int .i64 m] w fun e w' => ∃ b, e = .returned (.bool b) ∧ Only (fun b => b = a) w w' ∧ Cur B A n cap a w' := by
  have HB := hide (spec_l1Below m w h h1 h2)
  clear h
  go_enter Try.func122, Try.ntmps122
  go_wp2_with fail
  refine HB.out.mono ?_
  rintro e w1 ⟨x, rfl, hx0, hx1, ho, hc⟩
  clear hx0 hx1
  go_wp2_with fail
  go_ret
  exact ⟨_, rfl, ho, hc⟩
/-- what a pick among numbers in memory gives: one of them -/
theorem spec_l1PickInt {m c' b' off : Nat} {lo hi : Int} {xs : List Int} (w : World) (h : Cur B A n cap a w) (h1 : 1 ≤ m) (h2 : m ≤ 1000) (hbl : b' < w.heap.size) (hne : b' ≠ a)
    (hcell : ∀ j, j < m → w.cell? ⟨b', off + j, none⟩ = some (.int .i64 (xs.getD j 0))) (hxs : ∀ j, j < m → lo ≤ xs.getD j 0 ∧ xs.getD j 0 ≤ hi) :
    Calls Try.prog 154 #[.pointer (some ⟨a, 0, none⟩), .slice (some ⟨b', off, none⟩) m c'] w (Drawn B A n cap a w lo hi) := by
  have HB := hide (spec_l1Below m w h (by omega) (by omega))
  clear h
  go_enter Try.func154, Try.ntmps154
  go_wp2_with fail
  refine HB.out.mono ?_
  rintro e w1 ⟨x, rfl, hx0, hx1, ho, hc⟩
  obtain ⟨k, rfl⟩ : ∃ k : Nat, x = (k : Int) := ⟨x.toNat, by omega⟩
  have hk : k < m := by omega
  have hv := (ho.cell (a := ⟨b', off + k, none⟩) hbl hne).trans (hcell k hk)
  obtain ⟨y, hy⟩ : ∃ y, xs.getD k 0 = y := ⟨_, rfl⟩
  have hb := hxs k hk
  rw [hy] at hv hb
  clear hcell hxs hy
  go_wp2_with fail
  go_ret
  exact ⟨y, rfl, hb.1, hb.2, ho, hc⟩
/-- .. among a slice just made -/
theorem pick_new {w : World} {us : List Int} {t : TypeId} {m : Nat} (hm : us.length = m) (h2 : m ≤ 1000) : ∀ j, j < m → (w.alloc (.cells (us.map (Value.int .i64)).toArray t)).cell? ⟨w.heap.size, 0 + j, none⟩ = some (.int .i64 (us.getD j 0)) := by
  intro j hj
  have := (World.ownsRow_lit (base := 0) (e := t) (size := 1) w (us.map (Value.int .i64)).toArray m (Nat.zero_le _) (by simp only [maxLen]; omega) (by simp [hm])).cellAt j (by simp; omega)
  rw [Nat.zero_add, this]
  simp [List.getD, List.getElem?_eq_getElem (show j < us.length by omega)]
theorem spec_pick {w : World} {lo hi : Int} {t : TypeId} {m : Nat} (us : List Int) (h : Cur B A n cap a w) (hm : us.length = m) (h1 : 1 ≤ m) (h2 : m ≤ 1000) (hxs : ∀ j, j < m → lo ≤ us.getD j 0 ∧ us.getD j 0 ≤ hi) :
    Calls Try.prog 154 #[.pointer (some ⟨a, 0, none⟩), .slice (some ⟨w.heap.size, 0, none⟩) m m] (w.alloc (.cells (us.map (Value.int .i64)).toArray t)) (Drawn B A n cap a w lo hi) := by
  have hb : Below w.heap.size w (w.alloc (.cells (us.map (Value.int .i64)).toArray t)) := (Below.refl _ _).alloc (Nat.le_refl _) _
  refine (spec_l1PickInt (xs := us) _ (h.below hb) h1 h2 (by simp) (by have := h.lt; omega) (pick_new hm h2) hxs).mono ?_
  rintro e w' ⟨x, he, h1, h2, ho, hc⟩
  exact ⟨x, he, h1, h2, (Only.of_below hb).trans ho, hc⟩
/-- a number, in the range by far -/
theorem spec_l2Fix (w : World) (h : Cur B A n cap a w) : Calls Try.prog 156 #[.pointer (some ⟨a, 0, none⟩)] w (Drawn B A n cap a w (-2147483647) 2147483647) := by
  have HB := hide (spec_l1Below 12 w h (by omega) (by omega))
  clear h
  go_enter Try.func156, Try.ntmps156
  go_wp2_with fail
  refine HB.out.mono ?_
  rintro e w1 ⟨x, rfl, hx0, hx1, ho, hc⟩
  have HC := hide hc
  have HO := hide ho
  clear hc ho HB
  by_cases x0 : x = 0
  · subst x0
    go_wp2_with fail
    refine (spec_pick [2147483647, -2147483647, 2147483646, 1, -1, 0] HC.out (m := 6) rfl (lo := -2147483647) (hi := 2147483647) (by omega) (by omega) (by decide)).mono ?_
    rintro e w2 ⟨y, rfl, hy0, hy1, ho2, hc2⟩
    go_wp2_with fail
    go_ret
    exact ⟨y, rfl, hy0, hy1, HO.out.trans ho2, hc2⟩
  have b0 : (x == 0) = false := by simpa using x0
  by_cases x1 : x = 1
  · subst x1
    go_wp2_with fail
    refine (spec_l1Below 4000 _ HC.out (by omega) (by omega)).mono ?_
    rintro e w2 ⟨y, rfl, hy0, hy1, ho2, hc2⟩
    go_wp2_with fail
    go_ret
    exact ⟨_, rfl, by omega, by omega, HO.out.trans ho2, hc2⟩
  have b1 : (x == 1) = false := by simpa using x1
  by_cases x2 : x = 2
  · subst x2
    go_wp2_with fail
    refine (spec_l1Below 9 _ HC.out (by omega) (by omega)).mono ?_
    rintro e w2 ⟨y, rfl, hy0, hy1, ho2, hc2⟩
    go_wp2_with fail
    go_ret
    exact ⟨_, rfl, by omega, by omega, HO.out.trans ho2, hc2⟩
  have b2 : (x == 2) = false := by simpa using x2
  clear hx0 hx1 x0 x1 x2
  go_wp2_with fail
  refine (spec_l1Below 17 _ HC.out (by omega) (by omega)).mono ?_
  rintro e w2 ⟨y, rfl, hy0, hy1, ho2, hc2⟩
  go_wp2_with fail
  refine (spec_pick [1, 1, 2, 4, 3] hc2 (m := 5) rfl (lo := 1) (hi := 4) (by omega) (by omega) (by decide)).mono ?_
  rintro e w3 ⟨z, rfl, hz0, hz1, ho3, hc3⟩
  have hd := div_in (y - 8) z (by omega) (by omega)
  obtain ⟨q, hq⟩ : ∃ q, ((y - 8) * 65536).tdiv z = q := ⟨_, rfl⟩
  rw [hq] at hd
  go_wp2_with fail
  go_ret
  exact ⟨q, rfl, by omega, by omega, (HO.out.trans ho2).trans ho3, hc3⟩
theorem spec_l2Raw (w : World) (h : Cur B A n cap a w) : Calls Try.prog 155 #[.pointer (some ⟨a, 0, none⟩)] w (Drawn B A n cap a w (-9223372036854775807) 9223372036854775807) := by
  have HB := hide (spec_l1Once 8 w h (by omega) (by omega))
  clear h
  go_enter Try.func155, Try.ntmps155
  go_wp2_with fail
  refine HB.out.mono ?_
  rintro e w1 ⟨x, rfl, ho, hc⟩
  cases x with
  | true =>
    go_wp2_with fail
    refine (spec_pick [2147483648, -2147483648, 9223372036854775807, -9223372036854775807] hc (m := 4) rfl (lo := -9223372036854775807) (hi := 9223372036854775807) (by omega) (by omega) (by decide)).mono ?_
    rintro e w2 ⟨y, rfl, hy0, hy1, ho2, hc2⟩
    go_wp2_with fail
    go_ret
    exact ⟨y, rfl, hy0, hy1, ho.trans ho2, hc2⟩
  | false =>
    go_wp2_with fail
    refine (spec_l2Fix _ hc).mono ?_
    rintro e w2 ⟨y, rfl, hy0, hy1, ho2, hc2⟩
    go_wp2_with fail
    go_ret
    exact ⟨y, rfl, by omega, by omega, ho.trans ho2, hc2⟩
/-- a slice of numbers is drawn, into new memory -/
def DrawnV (B : Nat) (A : Option Addr) (n cap a : Nat) (w : World) (m0 : Int) (m : Nat) (e : Ending) (w' : World) : Prop :=
  ∃ v xs, e = .returned v ∧ m0 ≤ xs.length ∧ xs.length ≤ m ∧ (∀ x ∈ xs, -9223372036854775807 ≤ x ∧ x ≤ 9223372036854775807) ∧ OI 3 w' w.heap.size w'.heap.size v xs ∧ Only (fun b => b = a) w w' ∧ Cur B A n cap a w'
theorem spec_l3Vec (m : Int) (M : Nat) (w : World) (h : Cur B A n cap a w) (h1 : m ≤ M) (h2 : M ≤ 1000) : Calls Try.prog 121 #[.pointer (some ⟨a, 0, none⟩), .int .i64 m] w (DrawnV B A n cap a w m M) := by
  have hlt := h.lt
  have hb0 : Below w.heap.size w (w.alloc (.cells #[] 3)) := (Below.refl _ _).alloc (Nat.le_refl _) _
  have HC := hide (h.below hb0)
  clear h
  go_enter Try.func121, Try.ntmps121
  go_wp2_with fail
  go_loopw [5, 6] (fun v i wr => ∃ (k : Nat) (xs : List Int), k ≤ M ∧ i = .int .i64 (k : Int) ∧ xs.length = k ∧ (∀ x ∈ xs, -9223372036854775807 ≤ x ∧ x ≤ 9223372036854775807) ∧ wr.ownsRow w.heap.size 3 1 v k (ivs xs) ∧ Only (fun b => b = a) w wr ∧ Cur B A n cap a wr)
    (fun _ i _ => M - (intOf i).toNat)
  case atStart => exact ⟨0, [], Nat.zero_le _, rfl, rfl, by simp, World.ownsRow_made w #[] 0 (Nat.le_refl _) (by decide) rfl, Only.of_below hb0, HC.out⟩
  case round =>
    obtain ⟨k, xs, hk, rfl, hl, hx, hown, ho, hc⟩ := hrel
    have hsz := ho.size
    by_cases hlt2 : (k : Int) < m
    · have HF := hide (spec_l2Fix wr hc)
      have HX := hide hx
      have HO := hide ho
      clear hc hx ho
      go_wp2_with fail
      refine HF.out.mono ?_
      rintro e w2 ⟨y, rfl, hy0, hy1, ho2, hc2⟩
      have hown2 : w2.ownsRow w.heap.size 3 1 u5 k (ivs xs) := by
        have := (OI.of_own hown).only ho2 (fun q h1 _ h3 => by omega)
        have h4 := this.1
        rw [hl] at h4
        exact h4
      have hsz2 := ho2.size
      go_wp2_with (at_builtin; refine wpList_push1 w2 (iv y) rfl (.tmp 13) (.tmp 16) _ rfl w.heap.size 3 _ 8 Try.underlying25 int_info rfl u5 _ _ rfl hown2 rfl rfl (by omega) (by omega) (by omega) ?_; intro v' w3 hown' hgr _)
      go_roundw
      case rel =>
        have hg : ∀ q, u5.ownBlock = some q → w.heap.size ≤ q := fun q hq => (hown2.lt q hq).1
        refine ⟨k + 1, xs ++ [y], by omega, by go_num, by simp [hl], ?_, by simpa [ivs] using hown', ?_, ?_⟩
        · intro x hx
          rcases List.mem_append.1 hx with hx | hx
          · exact HX.out x hx
          · obtain rfl : x = y := by simpa using hx
            omega
        · have h5 : Only (fun b => w.heap.size ≤ b) w2 w3 := Only.of_grown hgr hg
          have h6 := HO.out.trans ho2
          exact ⟨h5.os.trans h6.os, h5.tape.trans h6.tape, h5.output.trans h6.output, Nat.le_trans h6.size h5.size, fun q hq hn => (h5.block q (by have := h6.size; omega) (by omega)).trans (h6.block q hq hn)⟩
        · exact hc2.only (Only.of_grown (p := fun b => w.heap.size ≤ b) hgr hg) (fun q hq => by have := hc2.base; omega)
      case measure => simp [intOf]; omega
    · have HX := hide hx
      have HO := hide ho
      have HCC := hide hc
      clear hx ho hc
      go_wp2_with fail
      go_ret
      exact ⟨_, xs, rfl, by omega, by omega, HX.out, OI.of_own hown, HO.out, HCC.out⟩
theorem spec_l3Any (w : World) (h : Cur B A n cap a w) : Calls Try.prog 123 #[.pointer (some ⟨a, 0, none⟩)] w (DrawnV B A n cap a w 0 7) := by
  have HB := hide (spec_l1Below 4 w h (by omega) (by omega))
  have hlt := h.lt
  clear h
  go_enter Try.func123, Try.ntmps123
  go_wp2_with fail
  refine HB.out.mono ?_
  rintro e w1 ⟨x, rfl, hx0, hx1, ho, hc⟩
  go_wp2_with fail
  refine (spec_l3Vec (1 + x) 4 _ hc (by omega) (by omega)).mono ?_
  rintro e w2 ⟨v, xs, rfl, hl0, hl1, hxs, hO2, ho2, hc2⟩
  have hs1 := ho.size
  have hs2 := ho2.size
  replace ho := ho.trans ho2
  clear hc ho2 HB
  go_wp2_with fail
  refine (spec_l1Below 16 _ hc2 (by omega) (by omega)).mono ?_
  rintro e w3 ⟨y, rfl, hy0, hy1, ho3, hc3⟩
  have hs3 := ho3.size
  clear hc2
  by_cases y0 : y = 0
  · subst y0
    have HO := hide (ho.trans ho3)
    have hO3 := hO2.only ho3 (fun q h1 h2 h3 => by omega)
    clear ho ho3 hO2
    go_wp2_with fail
    refine (spec_l2Raw _ hc3).mono ?_
    rintro e w4 ⟨z, rfl, hz0, hz1, ho4, hc4⟩
    have hO4 := hO3.only ho4 (fun q h1 h2 h3 => by omega)
    have hs4 := ho4.size
    clear hO3
    obtain ⟨hown, hhi⟩ := hO4
    have hlen : 0 < xs.length := by omega
    obtain ⟨g, cp, cur, rfl, hg⟩ : ∃ g cp cur, v = .slice (some ⟨g, 0, none⟩) xs.length cp ∧ w1.heap.size ≤ g := by
      rcases hown.2 with ⟨_, h0⟩ | ⟨g, cp, cur, hv, hg, _⟩
      · simp at h0; rw [h0] at hlen; simp at hlen
      · exact ⟨g, cp, cur, hv, hg⟩
    have hst := hown.stored 0 (iv z)
    have hOO := hide hst.1
    have hG := hide hst.2
    have hdst : w4.cell? ⟨g, 0, none⟩ = some ((ivs xs).getD 0 undef) := by
      rw [hown.cellAt 0 (by omega)]
      have := hown.1
      rw [List.getD, List.getElem?_eq_getElem (by omega)]; rfl
    have hfr := hown.frozenAt 0
    have hgl := hhi g rfl
    clear hst hown
    go_wp2_with fail
    go_ret
    have hH : Only (fun b => w1.heap.size ≤ b) w4 _ := Only.of_grown hG.out (fun q hq => by simp at hq; omega)
    have h9 := HO.out.trans ho4
    refine ⟨_, xs.set 0 z, rfl, by omega, by simp; omega, fun x hx => ?_, ?_, ?_, hc4.only hH (fun q hq => by have := hc4.base; omega)⟩
    · rcases List.mem_or_eq_of_mem_set hx with hx | rfl
      · exact hxs x hx
      · exact ⟨hz0, hz1⟩
    · refine (OI.of_own (xs := xs.set 0 z) (n := xs.length) ?_).more (show w.heap.size ≤ w1.heap.size by omega) (Nat.le_refl _)
      have := hOO.out
      simp only [ivs, iv] at this ⊢
      rw [List.map_set]
      exact this
    · exact ⟨hH.os.trans h9.os, hH.tape.trans h9.tape, hH.output.trans h9.output, Nat.le_trans h9.size hH.size, fun q hq hn => (hH.block q (by have := h9.size; omega) (by omega)).trans (h9.block q hq hn)⟩
  have b0 : (y == 0) = false := by simpa using y0
  by_cases y1 : y = 1
  · subst y1
    have HO := hide (ho.trans ho3)
    clear ho ho3 hO2
    go_wp2_with fail
    refine (spec_pick [0, 6, 7] hc3 (m := 3) rfl (lo := 0) (hi := 7) (by omega) (by omega) (by decide)).mono ?_
    rintro e w4 ⟨z, rfl, hz0, hz1, ho4, hc4⟩
    have hs4 := ho4.size
    go_wp2_with fail
    refine (spec_l3Vec z 7 _ hc4 (by omega) (by omega)).mono ?_
    rintro e w5 ⟨u, ys, rfl, hm0, hm1, hys, hO5, ho5, hc5⟩
    go_wp2_with fail
    go_ret
    exact ⟨u, ys, rfl, by omega, hm1, hys, hO5.more (by omega) (Nat.le_refl _), (HO.out.trans ho4).trans ho5, hc5⟩
  have b1 : (y == 1) = false := by simpa using y1
  clear hy0 hy1 y0 y1
  go_wp2_with fail
  go_ret
  exact ⟨v, xs, rfl, by omega, by omega, hxs, (hO2.only ho3 (fun q h1 h2 h3 => by omega)).more (by omega) hs3, ho.trans ho3, hc3⟩
end
set_option maxRecDepth 100000 in
theorem spec_l1New {B n cap : Nat} {A : Option Addr} (w : World) (hb : BA w B A n cap) (hB : B ≤ w.heap.size) : Calls Try.prog 117 #[.slice A n cap] w fun e w' => e = .returned (.pointer (some ⟨w.heap.size, 0, none⟩)) ∧ Below w.heap.size w w' ∧ Cur B A n cap w.heap.size w' := by
  go_enter Try.func117, Try.ntmps117
  go_wp2_with fail
  go_loop [3, 4] (fun h i => ∃ (k : Nat) (h0 : Int), k ≤ n ∧ i = .int .i64 (k : Int) ∧ h = .int .i64 h0) (fun _ i => n - (intOf i).toNat)
  case atStart => exact ⟨0, _, Nat.zero_le _, rfl, rfl⟩
  case round =>
    obtain ⟨k, h0, hk, rfl, rfl⟩ := hrel
    by_cases hlt : k < n
    · by_cases h4 : k < 4000
      · obtain ⟨b, off, x, rfl, hbB, hx0, hx1, hc⟩ := hb.at_ hlt
        go_wp2
        go_round
        case rel => exact ⟨k + 1, _, by omega, by go_num, rfl⟩
        case measure => simp [intOf]; omega
      · go_wp2_with fail
        go_ret
        exact ⟨rfl, (Below.refl _ _).alloc (Nat.le_refl _) _, hB, ⟨0, _, _, Nat.zero_le _, heap_alloc_new w _⟩, hb.below ((Below.refl _ _).alloc hB _)⟩
    · obtain rfl : k = n := by omega
      go_wp2_with fail
      go_ret
      exact ⟨rfl, (Below.refl _ _).alloc (Nat.le_refl _) _, hB, ⟨0, _, _, Nat.zero_le _, heap_alloc_new w _⟩, hb.below ((Below.refl _ _).alloc hB _)⟩
/-- two slices of numbers, drawn; nothing that was there has turned -/
def Drawn2 (w : World) (m : Nat) (e : Ending) (w' : World) : Prop :=
  ∃ v u xs ys, e = .returned (.tuple #[v, u]) ∧ xs.length ≤ m ∧ ys.length ≤ m ∧ (∀ x ∈ xs, -9223372036854775807 ≤ x ∧ x ≤ 9223372036854775807) ∧ (∀ x ∈ ys, -9223372036854775807 ≤ x ∧ x ≤ 9223372036854775807) ∧
    RV w' w'.heap.size v xs ∧ RV w' w'.heap.size u ys ∧ Below w.heap.size w w'
end Go.Proofs.Ytehfglfbnjdcoaa
