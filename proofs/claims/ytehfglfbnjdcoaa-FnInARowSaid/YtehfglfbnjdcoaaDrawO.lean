/-
  Operations that are drawn.
-/
import Derived.Test.YtehfglfbnjdcoaaDraw
import Derived.Test.YtehfglfbnjdcoaaStru
import Derived.Test.YtehfglfbnjdcoaaRec
import Derived.Test.YtehfglfbnjdcoaaOp
import Derived.Test.YtehfglfbnjdcoaaPush
import Derived.Deep.DeepMust
import Derived.Deep.RegionHeld3
import Derived.Deep.Cut
namespace Go.Proofs.Ytehfglfbnjdcoaa
open Go.RowKit
set_option maxRecDepth 100000

/-- an operation is drawn, into new memory -/
def DrawnO (B : Nat) (A : Option Addr) (n cap a : Nat) (w : World) (e : Ending) (w' : World) : Prop :=
  ∃ (k i o : Int) (A' : Option Addr) (n' c' : Nat) (xs : List Int), e = .returned (Opv k i o A' n' c') ∧ -1 ≤ k ∧ k ≤ 7 ∧ 0 ≤ i ∧ i ≤ 7 ∧ 1 ≤ o ∧ o ≤ 3 ∧ xs.length ≤ 37 ∧ OwI w' w.heap.size w'.heap.size (.slice A' n' c') xs ∧ Only (fun b => b = a) w w' ∧ Cur B A n cap a w'
/-- .. that takes so many -/
def DrawnP (B : Nat) (A : Option Addr) (n cap a : Nat) (w : World) (i : Int) (e : Ending) (w' : World) : Prop :=
  ∃ (k o : Int) (A' : Option Addr) (n' c' : Nat) (xs : List Int), e = .returned (Opv k i o A' n' c') ∧ 1 ≤ k ∧ k ≤ 5 ∧ 1 ≤ o ∧ o ≤ 3 ∧ xs.length ≤ 36 ∧ OwI w' w.heap.size w'.heap.size (.slice A' n' c') xs ∧ Only (fun b => b = a) w w' ∧ Cur B A n cap a w'
theorem only_newO {w w1 w2 : World} {a L : Nat} (h : Only (fun b => b = a) w w1) (k : Only (fun b => L ≤ b) w1 w2) (hL : w.heap.size ≤ L) : Only (fun b => b = a) w w2 :=
  ⟨k.os.trans h.os, k.tape.trans h.tape, k.output.trans h.output, Nat.le_trans h.size k.size, fun q hq hn => (k.block q (by have := h.size; omega) (by omega)).trans (h.block q hq hn)⟩
theorem own_ne {w : World} {lo hi q g : Nat} {v : Value} {xs : List Int} {cs : Array Value} {fr : Nat × Nat} (h : OwI w lo hi v xs) (hq : v.ownBlock = some q) (hg : w.heap[g]? = some (.cells cs 52 fr)) : q ≠ g := by
  rintro rfl
  rcases h.1.2 with ⟨rfl, _⟩ | ⟨b, cap, cur, rfl, _, hh, _⟩
  · simp [Value.ownBlock] at hq
  · simp [Value.ownBlock] at hq
    subst hq
    rw [hh] at hg
    simp at hg
theorem Only.undrewO {w w' : World} {p : Nat → Prop} (h : Only p w.drew w') : Only p w w' := ⟨h.os, h.tape, h.output, h.size, h.block⟩
theorem Cur.drewO {B n cap a : Nat} {A : Option Addr} {w : World} (h : Cur B A n cap a w) : Cur B A n cap a w.drew := ⟨h.base, h.blk, h.bytes⟩
section
variable {B n cap a : Nat} {A : Option Addr}
set_option maxHeartbeats 1000000 in
theorem spec_l5Op (inn : Int) (w : World) (h : Cur B A n cap a w) (hi1 : 1 ≤ inn) (hi3 : inn ≤ 3) : Calls Try.prog 153 #[.pointer (some ⟨a, 0, none⟩), .int .i64 inn] w (DrawnP B A n cap a w inn) := by
  have hlt := h.lt
  have hBa := h.base
  obtain ⟨w0, hw0⟩ : ∃ W, W = w.alloc (.cells #[.int .i64 0, .int .i64 0, .int .i64 0, .slice none 0 0] 52) := ⟨_, rfl⟩
  have hb0 : Below w.heap.size w w0 := hw0 ▸ (Below.refl _ _).alloc (Nat.le_refl _) _
  have s0 : w.heap.size + 1 ≤ w0.heap.size := by rw [hw0]; simp
  have PR := hide (show w0.heap[w.heap.size]? = some (.cells #[.int .i64 0, .int .i64 0, .int .i64 0, .slice none 0 0] 52 (0, 0)) from by rw [hw0]; exact heap_alloc_new _ _)
  have HW0 := hide hw0
  have HB := hide (spec_l1Below 5 w0 (h.below hb0) (by omega) (by omega))
  have HO0 := hide (show Only (fun b => b = a) w w0 from Only.of_below hb0)
  clear hw0 hb0 h
  go_enter Try.func153, Try.ntmps153
  go_wp2_with fail
  rw [← HW0.out]
  refine HB.out.mono ?_
  rintro e w1 ⟨x, rfl, hx0, hx1, ho1, hc1⟩
  have hs1 := ho1.size
  have HO1 := hide (HO0.out.trans ho1)
  have PR1 := hide ((ho1.block _ (by omega) (by omega)).trans PR.out)
  obtain ⟨w2, hw2⟩ : ∃ W, W = w1.alloc (.cells #[.int .i64 (1 + x), .int .i64 inn, .int .i64 inn, .slice none 0 0] 52) := ⟨_, rfl⟩
  have hb2 : Below w1.heap.size w1 w2 := hw2 ▸ (Below.refl _ _).alloc (Nat.le_refl _) _
  have PGw2 := hide (show w2.heap[w1.heap.size]? = some (.cells #[.int .i64 (1 + x), .int .i64 inn, .int .i64 inn, .slice none 0 0] 52 (0, 0)) from by rw [hw2]; exact heap_alloc_new _ _)
  have hl2 : w1.heap.size < w2.heap.size := by rw [hw2]; simp
  have HW2 := hide hw2
  have HOw2 := hide (HO1.out.trans (Only.of_below hb2))
  have PRw2 := hide ((hb2.block _ (by omega)).trans PR1.out)
  have hcw2 := hc1.below hb2
  clear hw2 hb2 hc1 ho1 HB
  by_cases hx : x = 0
  · have hx' : ((1 + x) == 1) = true := by simp [hx]
    have HX := hide hx
    clear hx
    go_upto_region 3 with fail
    rw [← HW2.out]
    go_wp2_with fail
    refine (spec_l1Below 3 w2 hcw2 (by omega) (by omega)).mono ?_
    rintro e w3 ⟨y, rfl, hy0, hy1, ho3, hc3⟩
    have hs3 := ho3.size
    have HO3 := hide (HOw2.out.trans ho3)
    have pr3 := (ho3.block w.heap.size (by omega) (by omega)).trans PRw2.out
    have pg3 := (ho3.block w1.heap.size (by omega) (by omega)).trans PGw2.out
    have g0 := blk_cell pg3 0
    have g1 := blk_cell pg3 1
    have g2 := blk_cell pg3 2
    have g3 := blk_cell pg3 3
    have gf0 := blk_free pg3 0
    have gf1 := blk_free pg3 1
    have gf2 := blk_free pg3 2
    have gf3 := blk_free pg3 3
    simp at g0 g1 g2 g3
    have PR3 := hide pr3
    have PG3 := hide pg3
    clear ho3 hcw2 pr3 pg3
    go_upto_region 4 with fail
    obtain ⟨w4, hw4⟩ : ∃ W, W = w3.setCell ⟨w1.heap.size, 2, none⟩ (.int .i64 (1 + y)) := ⟨_, rfl⟩
    rw [← hw4]
    have hon : Only (fun b => w.heap.size ≤ b) w3 (w3.setCell ⟨w1.heap.size, 2, none⟩ (.int .i64 (1 + y))) := (Only.refl _ _).set w1.heap.size 2 (by omega) _
    have hcw4 : Cur B A n cap a w4 := hw4 ▸ hc3.only hon (fun q hq => by omega)
    have HOw4 := hide (hw4 ▸ only_newO HO3.out hon (Nat.le_refl _) : Only (fun b => b = a) w w4)
    have PGw4 := hide (hw4 ▸ blk_set PG3.out 2 _ : w4.heap[w1.heap.size]? = some (.cells #[.int .i64 (1 + x), .int .i64 inn, .int .i64 (1 + y), .slice none 0 0] 52 (0, 0)))
    have PRw4 := hide (hw4 ▸ blk_far PR3.out (by omega) _ : w4.heap[w.heap.size]? = some (.cells #[.int .i64 0, .int .i64 0, .int .i64 0, .slice none 0 0] 52 (0, 0)))
    have hs4 : w3.heap.size ≤ w4.heap.size := hw4 ▸ hon.size
    clear hon hw4 hc3 g0 g1 g2 g3 gf0 gf1 gf2 gf3
    obtain ⟨z, hz⟩ : ∃ z, opSize (1 + x) inn (1 + y) = z := ⟨_, rfl⟩
    have hzb := opSize_bd (1 + x) inn (1 + y)
    rw [hz] at hzb
    obtain ⟨hz0, hz1⟩ := hzb
    have HSZ := hide (hz ▸ spec_OpSize (1 + x) inn (1 + y) none 0 0 w4)
    have pg := PGw4.out
    have g0 := blk_cell pg 0
    have g1 := blk_cell pg 1
    have g2 := blk_cell pg 2
    have g3 := blk_cell pg 3
    simp at g0 g1 g2 g3
    clear hz pg
    go_wp2_with fail
    refine HSZ.out.mono ?_
    rintro e w6 ⟨rfl, hb6⟩
    have hs6 := hb6.size
    have HO6 := hide (HOw4.out.trans (Only.of_below hb6))
    have PR6 := hide ((hb6.block _ (by omega)).trans PRw4.out)
    have PG6 := hide ((hb6.block w1.heap.size (by omega)).trans PGw4.out)
    have hc6 := hcw4.below hb6
    clear hb6 g0 g1 g2 g3 HSZ
    go_wp2_with fail
    refine (spec_l3Vec z 36 w6 hc6 (by omega) (by omega)).mono ?_
    rintro e w7 ⟨v, xs, rfl, hl0, hl1, hxs, hO7, ho7, hc7⟩
    obtain ⟨A7, n7, c7, rfl, _⟩ := hO7.rv
    have hs7 := ho7.size
    have HO7 := hide (HO6.out.trans ho7)
    have pr7 := (ho7.block w.heap.size (by omega) (by omega)).trans PR6.out
    have pg7 := (ho7.block w1.heap.size (by omega) (by omega)).trans PG6.out
    have q0 := blk_cell pr7 0
    have q1 := blk_cell pr7 1
    have q2 := blk_cell pr7 2
    have q3 := blk_cell pr7 3
    have qf0 := blk_free pr7 0
    have qf1 := blk_free pr7 1
    have qf2 := blk_free pr7 2
    have qf3 := blk_free pr7 3
    simp at q0 q1 q2 q3
    have g0 := blk_cell pg7 0
    have g1 := blk_cell pg7 1
    have g2 := blk_cell pg7 2
    have g3 := blk_cell pg7 3
    have gf0 := blk_free pg7 0
    have gf1 := blk_free pg7 1
    have gf2 := blk_free pg7 2
    have gf3 := blk_free pg7 3
    simp at g0 g1 g2 g3
    have PR7 := hide pr7
    have HOW := hide hO7
    clear ho7 pr7 pg7 hxs hO7
    go_wp2_with fail
    refine bodyPost_ret (results_cell_row (P := Try.prog) (d := _) rfl _ _ w.heap.size 52 #[.int .i64 (1 + x), .int .i64 inn, .int .i64 (1 + y), .slice A7 n7 c7] (0, 0) rfl ?_ Try.underlying52 rfl rfl) rfl ?_
    · exact blk_set (blk_set (blk_set (blk_set (blk_far PR7.out (by omega) _) 0 _) 1 _) 2 _) 3 _
    · have hH : Only (fun b => w.heap.size ≤ b) w7 _ := (((((Only.refl (fun b => w.heap.size ≤ b) w7).set w1.heap.size 3 (by omega) (.slice A7 n7 c7)).set w.heap.size 0 (by omega) (.int .i64 (1 + x))).set w.heap.size 1 (by omega) (.int .i64 inn)).set w.heap.size 2 (by omega) (.int .i64 (1 + y))).set w.heap.size 3 (by omega) (.slice A7 n7 c7)
      have hS : Only (fun b => b = w1.heap.size ∨ b = w.heap.size) w7 _ := (((((Only.refl (fun b => b = w1.heap.size ∨ b = w.heap.size) w7).set w1.heap.size 3 (by omega) (.slice A7 n7 c7)).set w.heap.size 0 (by omega) (.int .i64 (1 + x))).set w.heap.size 1 (by omega) (.int .i64 inn)).set w.heap.size 2 (by omega) (.int .i64 (1 + y))).set w.heap.size 3 (by omega) (.slice A7 n7 c7)
      exact ⟨1 + x, (1 + y), A7, n7, c7, xs, rfl, by omega, by omega, by omega, by omega, by omega, (HOW.out.only hS (fun q h1 h2 h3 => by omega)).more (by omega) (by simp [World.setCell]), only_newO HO7.out hH (Nat.le_refl _), hc7.only hH (fun q hq => by omega)⟩
  · have hx' : ((1 + x) == 1) = false := by simp; omega
    clear hx
    go_upto_region 4 with fail
    rw [← HW2.out]
    obtain ⟨z, hz⟩ : ∃ z, opSize (1 + x) inn inn = z := ⟨_, rfl⟩
    have hzb := opSize_bd (1 + x) inn inn
    rw [hz] at hzb
    obtain ⟨hz0, hz1⟩ := hzb
    have HSZ := hide (hz ▸ spec_OpSize (1 + x) inn inn none 0 0 w2)
    have pg := PGw2.out
    have g0 := blk_cell pg 0
    have g1 := blk_cell pg 1
    have g2 := blk_cell pg 2
    have g3 := blk_cell pg 3
    simp at g0 g1 g2 g3
    clear hz pg
    go_wp2_with fail
    refine HSZ.out.mono ?_
    rintro e w6 ⟨rfl, hb6⟩
    have hs6 := hb6.size
    have HO6 := hide (HOw2.out.trans (Only.of_below hb6))
    have PR6 := hide ((hb6.block _ (by omega)).trans PRw2.out)
    have PG6 := hide ((hb6.block w1.heap.size (by omega)).trans PGw2.out)
    have hc6 := hcw2.below hb6
    clear hb6 g0 g1 g2 g3 HSZ
    go_wp2_with fail
    refine (spec_l3Vec z 36 w6 hc6 (by omega) (by omega)).mono ?_
    rintro e w7 ⟨v, xs, rfl, hl0, hl1, hxs, hO7, ho7, hc7⟩
    obtain ⟨A7, n7, c7, rfl, _⟩ := hO7.rv
    have hs7 := ho7.size
    have HO7 := hide (HO6.out.trans ho7)
    have pr7 := (ho7.block w.heap.size (by omega) (by omega)).trans PR6.out
    have pg7 := (ho7.block w1.heap.size (by omega) (by omega)).trans PG6.out
    have q0 := blk_cell pr7 0
    have q1 := blk_cell pr7 1
    have q2 := blk_cell pr7 2
    have q3 := blk_cell pr7 3
    have qf0 := blk_free pr7 0
    have qf1 := blk_free pr7 1
    have qf2 := blk_free pr7 2
    have qf3 := blk_free pr7 3
    simp at q0 q1 q2 q3
    have g0 := blk_cell pg7 0
    have g1 := blk_cell pg7 1
    have g2 := blk_cell pg7 2
    have g3 := blk_cell pg7 3
    have gf0 := blk_free pg7 0
    have gf1 := blk_free pg7 1
    have gf2 := blk_free pg7 2
    have gf3 := blk_free pg7 3
    simp at g0 g1 g2 g3
    have PR7 := hide pr7
    have HOW := hide hO7
    clear ho7 pr7 pg7 hxs hO7
    go_wp2_with fail
    refine bodyPost_ret (results_cell_row (P := Try.prog) (d := _) rfl _ _ w.heap.size 52 #[.int .i64 (1 + x), .int .i64 inn, .int .i64 inn, .slice A7 n7 c7] (0, 0) rfl ?_ Try.underlying52 rfl rfl) rfl ?_
    · exact blk_set (blk_set (blk_set (blk_set (blk_far PR7.out (by omega) _) 0 _) 1 _) 2 _) 3 _
    · have hH : Only (fun b => w.heap.size ≤ b) w7 _ := (((((Only.refl (fun b => w.heap.size ≤ b) w7).set w1.heap.size 3 (by omega) (.slice A7 n7 c7)).set w.heap.size 0 (by omega) (.int .i64 (1 + x))).set w.heap.size 1 (by omega) (.int .i64 inn)).set w.heap.size 2 (by omega) (.int .i64 inn)).set w.heap.size 3 (by omega) (.slice A7 n7 c7)
      have hS : Only (fun b => b = w1.heap.size ∨ b = w.heap.size) w7 _ := (((((Only.refl (fun b => b = w1.heap.size ∨ b = w.heap.size) w7).set w1.heap.size 3 (by omega) (.slice A7 n7 c7)).set w.heap.size 0 (by omega) (.int .i64 (1 + x))).set w.heap.size 1 (by omega) (.int .i64 inn)).set w.heap.size 2 (by omega) (.int .i64 inn)).set w.heap.size 3 (by omega) (.slice A7 n7 c7)
      exact ⟨1 + x, inn, A7, n7, c7, xs, rfl, by omega, by omega, by omega, by omega, by omega, (HOW.out.only hS (fun q h1 h2 h3 => by omega)).more (by omega) (by simp [World.setCell]), only_newO HO7.out hH (Nat.le_refl _), hc7.only hH (fun q hq => by omega)⟩
end
section
variable {B n cap a : Nat} {A : Option Addr}
set_option maxHeartbeats 2000000 in
theorem spec_l5Any (w : World) (h : Cur B A n cap a w) : Calls Try.prog 120 #[.pointer (some ⟨a, 0, none⟩)] w (DrawnO B A n cap a w) := by
  have hlt := h.lt
  have hBa := h.base
  obtain ⟨w0, hw0⟩ : ∃ W, W = w.alloc (.cells #[.int .i64 0, .int .i64 0, .int .i64 0, .slice none 0 0] 52) := ⟨_, rfl⟩
  have hb0 : Below w.heap.size w w0 := hw0 ▸ (Below.refl _ _).alloc (Nat.le_refl _) _
  have s0 : w.heap.size + 1 ≤ w0.heap.size := by rw [hw0]; simp
  have PR := hide (show w0.heap[w.heap.size]? = some (.cells #[.int .i64 0, .int .i64 0, .int .i64 0, .slice none 0 0] 52 (0, 0)) from by rw [hw0]; exact heap_alloc_new _ _)
  have HW0 := hide hw0
  have HB := hide (spec_l1Below 3 w0 (h.below hb0) (by omega) (by omega))
  have HO0 := hide (show Only (fun b => b = a) w w0 from Only.of_below hb0)
  clear hw0 hb0 h
  go_enter Try.func120, Try.ntmps120
  go_wp2_with fail
  rw [← HW0.out]
  refine HB.out.mono ?_
  rintro e w1 ⟨y, rfl, hy0, hy1, ho1, hc1⟩
  have hs1 := ho1.size
  have HO1 := hide (HO0.out.trans ho1)
  have PR1 := hide ((ho1.block _ (by omega) (by omega)).trans PR.out)
  clear ho1 HB
  go_wp2_with fail
  refine (spec_l5Op (1 + y) w1 hc1 (by omega) (by omega)).mono ?_
  rintro e w3 ⟨k, o, A3, n3, c3, xs, rfl, hk1, hk5, ho1, ho3', hxl, hO3, hon3, hc3⟩
  have hs3 := hon3.size
  have HO3 := hide (HO1.out.trans hon3)
  have PR3 := hide ((hon3.block _ (by omega) (by omega)).trans PR1.out)
  obtain ⟨w4, hw4⟩ : ∃ W, W = w3.alloc (.cells #[.int .i64 k, .int .i64 (1 + y), .int .i64 o, .slice A3 n3 c3] 52) := ⟨_, rfl⟩
  have hb4 : Below w3.heap.size w3 w4 := hw4 ▸ (Below.refl _ _).alloc (Nat.le_refl _) _
  have PG4 := hide (show w4.heap[w3.heap.size]? = some (.cells #[.int .i64 k, .int .i64 (1 + y), .int .i64 o, .slice A3 n3 c3] 52 (0, 0)) from by rw [hw4]; exact heap_alloc_new _ _)
  have hl4 : w3.heap.size < w4.heap.size := by rw [hw4]; simp
  have HW4 := hide hw4
  have HO4 := hide (HO3.out.trans (Only.of_below hb4))
  have PR4 := hide ((hb4.block _ (by omega)).trans PR3.out)
  have hO4 := hO3.below hb4
  have hc4 := hc3.below hb4
  have hln : xs.length = n3 := hO3.ri.1
  have HLN := hide hln
  have hn3 : n3 ≤ 36 := by omega
  clear hw4 hb4 hO3 hc3 hon3 hc1 hln
  go_wp2_with fail
  rw [← HW4.out]
  refine (spec_l1Below 14 w4 hc4 (by omega) (by omega)).mono ?_
  rintro e w5 ⟨z, rfl, hz0, hz1, ho5, hc5⟩
  have hs5 := ho5.size
  have HO5 := hide (HO4.out.trans ho5)
  have PR5 := hide ((ho5.block _ (by omega) (by omega)).trans PR4.out)
  have PG5 := hide ((ho5.block w3.heap.size (by omega) (by omega)).trans PG4.out)
  have hO5 := hO4.only ho5 (fun q h1 h2 h3 => by omega)
  clear ho5 hc4 hO4
  by_cases z0 : z = 0
  · subst z0
    go_wp2_with fail
    refine (spec_l1Below 8 w5 hc5 (by omega) (by omega)).mono ?_
    rintro e w6 ⟨u, rfl, hu0, hu1, ho6, hc6⟩
    have hs6 := ho6.size
    have HO6 := hide (HO5.out.trans ho6)
    have pr6 := (ho6.block _ (by omega) (by omega)).trans PR5.out
    have pg6 := (ho6.block w3.heap.size (by omega) (by omega)).trans PG5.out
    have HOW := hide (hO5.only ho6 (fun q h1 h2 h3 => by omega))
    clear ho6 hc5 hO5
    have g0 := blk_cell pg6 0
    have g1 := blk_cell pg6 1
    have g2 := blk_cell pg6 2
    have g3 := blk_cell pg6 3
    have gf0 := blk_free pg6 0
    have gf1 := blk_free pg6 1
    have gf2 := blk_free pg6 2
    have gf3 := blk_free pg6 3
    simp at g0 g1 g2 g3
    have q0 := blk_cell pr6 0
    have q1 := blk_cell pr6 1
    have q2 := blk_cell pr6 2
    have q3 := blk_cell pr6 3
    have qf0 := blk_free pr6 0
    have qf1 := blk_free pr6 1
    have qf2 := blk_free pr6 2
    have qf3 := blk_free pr6 3
    simp at q0 q1 q2 q3
    have HPR := hide pr6
    go_wp2_with fail
    refine bodyPost_ret (results_cell_row (P := Try.prog) (d := _) rfl _ _ w.heap.size 52 #[.int .i64 (u - 1), .int .i64 (1 + y), .int .i64 o, .slice A3 n3 c3] (0, 0) rfl ?_ Try.underlying52 rfl rfl) rfl ?_
    · exact (blk_set (blk_set (blk_set (blk_set (blk_far HPR.out (by omega) _) 0 _) 1 _) 2 _) 3 _)
    · have hH : Only (fun b => w.heap.size ≤ b) w6 _ := ((((((Only.refl (fun b => w.heap.size ≤ b) w6).set w3.heap.size 0 (by omega) (.int .i64 (u - 1))).set w.heap.size 0 (by omega) (.int .i64 (u - 1))).set w.heap.size 1 (by omega) (.int .i64 (1 + y))).set w.heap.size 2 (by omega) (.int .i64 o)).set w.heap.size 3 (by omega) (.slice A3 n3 c3))
      have hS : Only (fun b => b = w3.heap.size ∨ b = w.heap.size) w6 _ := ((((((Only.refl (fun b => b = w3.heap.size ∨ b = w.heap.size) w6).set w3.heap.size 0 (by omega) (.int .i64 (u - 1))).set w.heap.size 0 (by omega) (.int .i64 (u - 1))).set w.heap.size 1 (by omega) (.int .i64 (1 + y))).set w.heap.size 2 (by omega) (.int .i64 o)).set w.heap.size 3 (by omega) (.slice A3 n3 c3))
      exact ⟨(u - 1), (1 + y), o, A3, n3, c3, xs, rfl, by omega, by omega, by omega, by omega, by omega, by omega, by omega, (HOW.out.only hS (fun q h1 h2 h3 => by omega)).more (by omega) (by first | (simp [World.setCell]; done) | (simp [World.setCell]; omega)), only_newO HO6.out hH (Nat.le_refl _), hc6.only hH (fun q hq => by omega)⟩
  have b0 : (z == 0) = false := by simpa using z0
  by_cases z1 : z = 1
  · subst z1
    have pg5 := PG5.out
    have g0 := blk_cell pg5 0
    have g1 := blk_cell pg5 1
    have g2 := blk_cell pg5 2
    have g3 := blk_cell pg5 3
    simp at g0 g1 g2 g3
    clear pg5
    go_wp2_with fail
    refine (spec_pick [0, 7, 1 + y + 1] hc5 (m := 3) rfl (lo := 0) (hi := 7) (by omega) (by omega) (fun j hj => by
      match j, hj with
      | 0, _ => simp
      | 1, _ => simp
      | 2, _ => simp; omega)).mono ?_
    rintro e w6 ⟨u, rfl, hu0, hu1, ho6, hc6⟩
    have hs6 := ho6.size
    have HO6 := hide (HO5.out.trans ho6)
    have pr6 := (ho6.block _ (by omega) (by omega)).trans PR5.out
    have pg6 := (ho6.block w3.heap.size (by omega) (by omega)).trans PG5.out
    have HOW := hide (hO5.only ho6 (fun q h1 h2 h3 => by omega))
    clear ho6 hc5 hO5 g0 g1 g2 g3
    have g0 := blk_cell pg6 0
    have g1 := blk_cell pg6 1
    have g2 := blk_cell pg6 2
    have g3 := blk_cell pg6 3
    have gf0 := blk_free pg6 0
    have gf1 := blk_free pg6 1
    have gf2 := blk_free pg6 2
    have gf3 := blk_free pg6 3
    simp at g0 g1 g2 g3
    have q0 := blk_cell pr6 0
    have q1 := blk_cell pr6 1
    have q2 := blk_cell pr6 2
    have q3 := blk_cell pr6 3
    have qf0 := blk_free pr6 0
    have qf1 := blk_free pr6 1
    have qf2 := blk_free pr6 2
    have qf3 := blk_free pr6 3
    simp at q0 q1 q2 q3
    have HPR := hide pr6
    go_wp2_with fail
    refine bodyPost_ret (results_cell_row (P := Try.prog) (d := _) rfl _ _ w.heap.size 52 #[.int .i64 k, .int .i64 u, .int .i64 o, .slice A3 n3 c3] (0, 0) rfl ?_ Try.underlying52 rfl rfl) rfl ?_
    · exact (blk_set (blk_set (blk_set (blk_set (blk_far HPR.out (by omega) _) 0 _) 1 _) 2 _) 3 _)
    · have hH : Only (fun b => w.heap.size ≤ b) w6 _ := ((((((Only.refl (fun b => w.heap.size ≤ b) w6).set w3.heap.size 1 (by omega) (.int .i64 u)).set w.heap.size 0 (by omega) (.int .i64 k)).set w.heap.size 1 (by omega) (.int .i64 u)).set w.heap.size 2 (by omega) (.int .i64 o)).set w.heap.size 3 (by omega) (.slice A3 n3 c3))
      have hS : Only (fun b => b = w3.heap.size ∨ b = w.heap.size) w6 _ := ((((((Only.refl (fun b => b = w3.heap.size ∨ b = w.heap.size) w6).set w3.heap.size 1 (by omega) (.int .i64 u)).set w.heap.size 0 (by omega) (.int .i64 k)).set w.heap.size 1 (by omega) (.int .i64 u)).set w.heap.size 2 (by omega) (.int .i64 o)).set w.heap.size 3 (by omega) (.slice A3 n3 c3))
      exact ⟨k, u, o, A3, n3, c3, xs, rfl, by omega, by omega, by omega, by omega, by omega, by omega, by omega, (HOW.out.only hS (fun q h1 h2 h3 => by omega)).more (by omega) (by first | (simp [World.setCell]; done) | (simp [World.setCell]; omega)), only_newO HO6.out hH (Nat.le_refl _), hc6.only hH (fun q hq => by omega)⟩
  have b1 : (z == 1) = false := by simpa using z1
  by_cases z2 : z = 2
  · subst z2
    have pg5 := PG5.out
    have g0 := blk_cell pg5 0
    have g1 := blk_cell pg5 1
    have g2 := blk_cell pg5 2
    have g3 := blk_cell pg5 3
    simp at g0 g1 g2 g3
    clear pg5
    have HOW5 := hide hO5
    have HC5 := hide hc5
    have gate0 : True := trivial
    have hxl' : xs.length < 1073741824 := by omega
    clear hO5 hc5
    go_wp2_with (first
      | (at_builtin; clear gate0; go_must (refine wpList_pushI w5 0 rfl (.tmp 29) (.tmp 30) _ rfl 3 _ Try.underlying25 int_info rfl (lo := w1.heap.size) (hi := w3.heap.size) (xs := xs) (v := .slice A3 n3 c3) rfl HOW5.out rfl (by omega) hxl' ?_); intro A6 n6 c6 w6 hO6 hon; have hon : Only (fun b => (Value.slice A3 n3 c3).ownBlock = some b) w5 w6 := ⟨hon.os, hon.tape, hon.output, hon.size, hon.block⟩; have hne : ∀ q, (Value.slice A3 n3 c3).ownBlock = some q → w1.heap.size ≤ q ∧ q < w3.heap.size := (fun q hq => ⟨(HOW5.out.1.lt q hq).1, HOW5.out.2 q hq⟩); have hs6 := hon.size; have pg6 := (hon.block w3.heap.size (by omega) (fun hc => by have := hne _ hc; omega)).trans PG5.out; have pr6 := (hon.block w.heap.size (by omega) (fun hc => by have := hne _ hc; omega)).trans PR5.out; have HOW6 := hide hO6; have hon7 : Only (fun b => w.heap.size ≤ b) w5 w6 := hon.mono (fun q hq => by have := hne q hq; omega); have HO6 := hide (only_newO HO5.out hon7 (Nat.le_refl _)); have hc6 : Cur B A n cap a w6 := HC5.out.only hon7 (fun q hq => by omega); have HNE := hide (fun (q : Nat) (hq : (Value.slice A6 n6 c6).ownBlock = some q) => (⟨own_ne hO6 hq pg6, (hO6.1.lt q hq).1⟩ : q ≠ w3.heap.size ∧ w1.heap.size ≤ q)); have HPR := hide pr6; clear g0 g1 g2 g3; have g0 := blk_cell pg6 0; have g1 := blk_cell pg6 1; have g2 := blk_cell pg6 2; have g3 := blk_cell pg6 3; have gf0 := blk_free pg6 0; have gf1 := blk_free pg6 1; have gf2 := blk_free pg6 2; have gf3 := blk_free pg6 3; simp at g0 g1 g2 g3; have q0 := blk_cell pr6 0; have q1 := blk_cell pr6 1; have q2 := blk_cell pr6 2; have q3 := blk_cell pr6 3; have qf0 := blk_free pr6 0; have qf1 := blk_free pr6 1; have qf2 := blk_free pr6 2; have qf3 := blk_free pr6 3; simp at q0 q1 q2 q3; clear hon hon7 hO6 hne pg6 pr6))
    refine bodyPost_ret (results_cell_row (P := Try.prog) (d := _) rfl _ _ w.heap.size 52 #[.int .i64 k, .int .i64 (1 + y), .int .i64 o, .slice A6 n6 c6] (0, 0) rfl ?_ Try.underlying52 rfl rfl) rfl ?_
    · exact (blk_set (blk_set (blk_set (blk_set (blk_far HPR.out (by omega) _) 0 _) 1 _) 2 _) 3 _)
    · have hH : Only (fun b => w.heap.size ≤ b) w6 _ := ((((((Only.refl (fun b => w.heap.size ≤ b) w6).set w3.heap.size 3 (by omega) (.slice A6 n6 c6)).set w.heap.size 0 (by omega) (.int .i64 k)).set w.heap.size 1 (by omega) (.int .i64 (1 + y))).set w.heap.size 2 (by omega) (.int .i64 o)).set w.heap.size 3 (by omega) (.slice A6 n6 c6))
      have hS : Only (fun b => b = w3.heap.size ∨ b = w.heap.size) w6 _ := ((((((Only.refl (fun b => b = w3.heap.size ∨ b = w.heap.size) w6).set w3.heap.size 3 (by omega) (.slice A6 n6 c6)).set w.heap.size 0 (by omega) (.int .i64 k)).set w.heap.size 1 (by omega) (.int .i64 (1 + y))).set w.heap.size 2 (by omega) (.int .i64 o)).set w.heap.size 3 (by omega) (.slice A6 n6 c6))
      exact ⟨k, (1 + y), o, A6, n6, c6, xs ++ [0], rfl, by omega, by omega, by omega, by omega, by omega, by omega, (by rw [List.length_append]; simp; omega), (FO.only (FO.of_oi HOW6.out) hS (fun q hq h3 => by have := HNE.out q hq; omega) : OwI _ _ _ _ _).more (by omega) (by first | (simp [World.setCell]; done) | (simp [World.setCell]; omega)), only_newO HO6.out hH (Nat.le_refl _), hc6.only hH (fun q hq => by omega)⟩
  have b2 : (z == 2) = false := by simpa using z2
  by_cases z3 : z = 3
  · subst z3
    by_cases hn0 : 0 < n3
    case neg =>
      have hn0' : ¬ (0 : Int) < (n3 : Int) := by omega
      have pg5 := PG5.out
      have pr5 := PR5.out
      have g0 := blk_cell pg5 0
      have g1 := blk_cell pg5 1
      have g2 := blk_cell pg5 2
      have g3 := blk_cell pg5 3
      have gf0 := blk_free pg5 0
      have gf1 := blk_free pg5 1
      have gf2 := blk_free pg5 2
      have gf3 := blk_free pg5 3
      simp at g0 g1 g2 g3
      have q0 := blk_cell pr5 0
      have q1 := blk_cell pr5 1
      have q2 := blk_cell pr5 2
      have q3 := blk_cell pr5 3
      have qf0 := blk_free pr5 0
      have qf1 := blk_free pr5 1
      have qf2 := blk_free pr5 2
      have qf3 := blk_free pr5 3
      simp at q0 q1 q2 q3
      have HPR := hide pr5
      go_wp2_with fail
      refine bodyPost_ret (results_cell_row (P := Try.prog) (d := _) rfl _ _ w.heap.size 52 #[.int .i64 k, .int .i64 (1 + y), .int .i64 o, .slice A3 n3 c3] (0, 0) rfl ?_ Try.underlying52 rfl rfl) rfl ?_
      · exact (blk_set (blk_set (blk_set (blk_set HPR.out 0 _) 1 _) 2 _) 3 _)
      · have hH : Only (fun b => w.heap.size ≤ b) w5 _ := (((((Only.refl (fun b => w.heap.size ≤ b) w5).set w.heap.size 0 (by omega) (.int .i64 k)).set w.heap.size 1 (by omega) (.int .i64 (1 + y))).set w.heap.size 2 (by omega) (.int .i64 o)).set w.heap.size 3 (by omega) (.slice A3 n3 c3))
        have hS : Only (fun b => b = w.heap.size) w5 _ := (((((Only.refl (fun b => b = w.heap.size) w5).set w.heap.size 0 (by omega) (.int .i64 k)).set w.heap.size 1 (by omega) (.int .i64 (1 + y))).set w.heap.size 2 (by omega) (.int .i64 o)).set w.heap.size 3 (by omega) (.slice A3 n3 c3))
        exact ⟨k, (1 + y), o, A3, n3, c3, xs, rfl, by omega, by omega, by omega, by omega, by omega, by omega, by omega, (hO5.only hS (fun q h1 h2 h3 => by omega)).more (by omega) (by first | (simp [World.setCell]; done) | (simp [World.setCell]; omega)), only_newO HO5.out hH (Nat.le_refl _), hc5.only hH (fun q hq => by omega)⟩
    have hn0' : (0 : Int) < (n3 : Int) := by omega
    obtain ⟨hown, hhi⟩ := hO5
    obtain ⟨gd, cp, cur, hv, hgd⟩ : ∃ gd cp cur, Value.slice A3 n3 c3 = .slice (some ⟨gd, 0, none⟩) xs.length cp ∧ w1.heap.size ≤ gd := by
      rcases hown.2 with ⟨_, h0⟩ | ⟨g, cp, cur, hv, hg, _⟩
      · have h9 := HLN.out; simp at h0; rw [h0] at h9; simp at h9; omega
      · exact ⟨g, cp, cur, hv, hg⟩
    simp only [Value.slice.injEq] at hv
    obtain ⟨rfl, rfl, rfl⟩ := hv
    have hgl := hhi gd rfl
    have HOWN := hide hown
    have pg5 := PG5.out
    have g3 := blk_cell pg5 3
    simp at g3
    have HC5 := hide hc5
    clear hown hhi pg5 hc5
    go_wp2_with fail
    have gate0 : True := trivial
    go_region_held3 (fun W => W.cell? ⟨w3.heap.size, 3, none⟩ = some (.slice (some ⟨gd, 0, none⟩) xs.length c3)) (first | exact g3 | exact gk) (first
      | (clear gate0; go_at_call 155; refine (spec_l2Raw w5.drew HC5.out.drewO).mono ?_; rintro e w6 ⟨u, rfl, hu0, hu1, ho6, hc6⟩; have ho6 : Only (fun b => b = a) w5 w6 := ho6.undrewO; have hs6 := ho6.size; have hO6 := OI.only (OI.of_own HOWN.out) ho6 (fun q h1 h2 h3 => by omega); have hst := hO6.1.stored 0 (iv u); have HST := hide hst.1; have hdst : w6.cell? ⟨gd, 0, none⟩ = some ((ivs xs).getD 0 undef) := (by rw [hO6.1.cellAt 0 (by omega)]; have := hO6.1.1; rw [List.getD, List.getElem?_eq_getElem (by omega)]; rfl); have hfr := hO6.1.frozenAt 0; have pg6 := (ho6.block w3.heap.size (by omega) (by omega)).trans PG5.out; have gk6 := blk_far pg6 (b := gd) (j := 0) (by omega) (.int .i64 u); have gk := blk_cell gk6 3; replace g3 := blk_cell pg6 3; simp at gk g3; have PG7 := hide gk6; have PR7 := hide (blk_far ((ho6.block w.heap.size (by omega) (by omega)).trans PR5.out) (b := gd) (j := 0) (by omega) (.int .i64 u)); have HO6 := hide (HO5.out.trans ho6); clear hst hO6 pg6 gk6 ho6))
    obtain ⟨wd, hwd⟩ : ∃ W, W = w6.setCell ⟨gd, 0, none⟩ (.int .i64 u) := ⟨_, rfl⟩
    rw [← hwd]
    have pg7 := PG7.out
    have pr7 := PR7.out
    have hst := HST.out
    have hon : Only (fun b => w1.heap.size ≤ b) w6 (w6.setCell ⟨gd, 0, none⟩ (.int .i64 u)) := (Only.refl (fun b => w1.heap.size ≤ b) w6).set gd 0 hgd _
    have hc7 : Cur B A n cap a (w6.setCell ⟨gd, 0, none⟩ (.int .i64 u)) := hc6.only hon (fun q hq => by omega)
    have HO7 := hide (only_newO HO6.out hon (by omega))
    have hsd : w6.heap.size ≤ (w6.setCell ⟨gd, 0, none⟩ (.int .i64 u)).heap.size := hon.size
    have HOW := hide (OI.of_own (xs := xs.set 0 u) (n := xs.length) (by
      have := hst
      simp only [ivs, iv] at this ⊢
      rw [List.map_set]
      exact this))
    rw [← hwd] at pg7 pr7 hc7 HO7 HOW hsd
    clear hst hon hwd g3 gk hdst hfr
    have g0 := blk_cell pg7 0
    have g1 := blk_cell pg7 1
    have g2 := blk_cell pg7 2
    have g3 := blk_cell pg7 3
    have gf0 := blk_free pg7 0
    have gf1 := blk_free pg7 1
    have gf2 := blk_free pg7 2
    have gf3 := blk_free pg7 3
    simp at g0 g1 g2 g3
    have q0 := blk_cell pr7 0
    have q1 := blk_cell pr7 1
    have q2 := blk_cell pr7 2
    have q3 := blk_cell pr7 3
    have qf0 := blk_free pr7 0
    have qf1 := blk_free pr7 1
    have qf2 := blk_free pr7 2
    have qf3 := blk_free pr7 3
    simp at q0 q1 q2 q3
    have HPR := hide pr7
    go_wp2_with fail
    refine bodyPost_ret (results_cell_row (P := Try.prog) (d := _) rfl _ _ w.heap.size 52 #[.int .i64 k, .int .i64 (1 + y), .int .i64 o, .slice (some ⟨gd, 0, none⟩) xs.length c3] (0, 0) rfl ?_ Try.underlying52 rfl rfl) rfl ?_
    · exact (blk_set (blk_set (blk_set (blk_set HPR.out 0 _) 1 _) 2 _) 3 _)
    · have hH : Only (fun b => w.heap.size ≤ b) wd _ := (((((Only.refl (fun b => w.heap.size ≤ b) wd).set w.heap.size 0 (by omega) (.int .i64 k)).set w.heap.size 1 (by omega) (.int .i64 (1 + y))).set w.heap.size 2 (by omega) (.int .i64 o)).set w.heap.size 3 (by omega) (.slice (some ⟨gd, 0, none⟩) xs.length c3))
      have hS : Only (fun b => b = w.heap.size) wd _ := (((((Only.refl (fun b => b = w.heap.size) wd).set w.heap.size 0 (by omega) (.int .i64 k)).set w.heap.size 1 (by omega) (.int .i64 (1 + y))).set w.heap.size 2 (by omega) (.int .i64 o)).set w.heap.size 3 (by omega) (.slice (some ⟨gd, 0, none⟩) xs.length c3))
      exact ⟨k, (1 + y), o, (some ⟨gd, 0, none⟩), xs.length, c3, xs.set 0 u, rfl, by omega, by omega, by omega, by omega, by omega, by omega, (by rw [List.length_set]; omega), (HOW.out.only hS (fun q h1 h2 h3 => by omega)).more (by omega) (by first | (simp [World.setCell]; done) | (simp [World.setCell]; omega)), only_newO HO7.out hH (Nat.le_refl _), hc7.only hH (fun q hq => by omega)⟩
  have b3 : (z == 3) = false := by simpa using z3
  have pg5 := PG5.out
  have pr5 := PR5.out
  clear z0 z1 z2 z3
  have g0 := blk_cell pg5 0
  have g1 := blk_cell pg5 1
  have g2 := blk_cell pg5 2
  have g3 := blk_cell pg5 3
  have gf0 := blk_free pg5 0
  have gf1 := blk_free pg5 1
  have gf2 := blk_free pg5 2
  have gf3 := blk_free pg5 3
  simp at g0 g1 g2 g3
  have q0 := blk_cell pr5 0
  have q1 := blk_cell pr5 1
  have q2 := blk_cell pr5 2
  have q3 := blk_cell pr5 3
  have qf0 := blk_free pr5 0
  have qf1 := blk_free pr5 1
  have qf2 := blk_free pr5 2
  have qf3 := blk_free pr5 3
  simp at q0 q1 q2 q3
  have HPR := hide pr5
  go_wp2_with fail
  refine bodyPost_ret (results_cell_row (P := Try.prog) (d := _) rfl _ _ w.heap.size 52 #[.int .i64 k, .int .i64 (1 + y), .int .i64 o, .slice A3 n3 c3] (0, 0) rfl ?_ Try.underlying52 rfl rfl) rfl ?_
  · exact (blk_set (blk_set (blk_set (blk_set HPR.out 0 _) 1 _) 2 _) 3 _)
  · have hH : Only (fun b => w.heap.size ≤ b) w5 _ := (((((Only.refl (fun b => w.heap.size ≤ b) w5).set w.heap.size 0 (by omega) (.int .i64 k)).set w.heap.size 1 (by omega) (.int .i64 (1 + y))).set w.heap.size 2 (by omega) (.int .i64 o)).set w.heap.size 3 (by omega) (.slice A3 n3 c3))
    have hS : Only (fun b => b = w.heap.size) w5 _ := (((((Only.refl (fun b => b = w.heap.size) w5).set w.heap.size 0 (by omega) (.int .i64 k)).set w.heap.size 1 (by omega) (.int .i64 (1 + y))).set w.heap.size 2 (by omega) (.int .i64 o)).set w.heap.size 3 (by omega) (.slice A3 n3 c3))
    exact ⟨k, (1 + y), o, A3, n3, c3, xs, rfl, by omega, by omega, by omega, by omega, by omega, by omega, by omega, (hO5.only hS (fun q h1 h2 h3 => by omega)).more (by omega) (by first | (simp [World.setCell]; done) | (simp [World.setCell]; omega)), only_newO HO5.out hH (Nat.le_refl _), hc5.only hH (fun q hq => by omega)⟩
end
theorem results_cell_row3 {P : Program} {fn : Func} {p u v : Tmp} {ty : TypeId} (h : fn.results = #[.cell p ty, .tmp u, .tmp v]) (tmps : Array Value) (w : World) (g : Nat) (t : TypeId) (cs : Array Value) (fr : Nat × Nat) (d : TypeDesc)
    (hp : tmps.getD p undef = .pointer (some ⟨g, 0, none⟩)) (hg : w.heap[g]? = some (.cells cs t fr))
    (hu : P.underlying ty = some d) (hd : (match d with | .struct _ | .array _ _ => true | _ => false) = true) (hi : (P.info? ty).map (·.size) = some cs.size) :
    (results fn tmps).run P w = .ok (.tuple #[.agg cs, tmps.getD u undef, tmps.getD v undef]) w := by
  have hp' : tmps[p]?.getD undef = .pointer (some ⟨g, 0, none⟩) := by simpa using hp
  simp [results, h, hp', asAddr, run_loadVar_row w g t ty cs fr d hg hu hd hi]
/-- an operation and two slices of numbers are drawn -/
def DrawnOVV (w : World) (e : Ending) (w' : World) : Prop :=
  ∃ (k i o : Int) (A' : Option Addr) (n' c' : Nat) (A2 : Option Addr) (n2 c2 : Nat) (A4 : Option Addr) (n4 c4 : Nat) (xs ys zs : List Int), e = .returned (.tuple #[Opv k i o A' n' c', .slice A2 n2 c2, .slice A4 n4 c4]) ∧ xs.length ≤ 37 ∧ ys.length ≤ 7 ∧ zs.length ≤ 7 ∧ RI w' w'.heap.size A' n' c' xs ∧ RI w' w'.heap.size A2 n2 c2 ys ∧ RI w' w'.heap.size A4 n4 c4 zs ∧ Below w.heap.size w w'
set_option maxHeartbeats 2000000 in
theorem spec_DrawOpBackward {B n cap : Nat} {A : Option Addr} (w : World) (hb : BA w B A n cap) (hB : B ≤ w.heap.size) : Calls Try.prog 60 #[.slice A n cap] w (DrawnOVV w) := by
  obtain ⟨w0, hw0⟩ : ∃ W, W = w.alloc (.cells #[.int .i64 0, .int .i64 0, .int .i64 0, .slice none 0 0] 52) := ⟨_, rfl⟩
  have hb0 : Below w.heap.size w w0 := hw0 ▸ (Below.refl _ _).alloc (Nat.le_refl _) _
  have s0 : w.heap.size < w0.heap.size := by rw [hw0]; simp
  have PR := hide (show w0.heap[w.heap.size]? = some (.cells #[.int .i64 0, .int .i64 0, .int .i64 0, .slice none 0 0] 52 (0, 0)) from by rw [hw0]; exact heap_alloc_new _ _)
  have HW0 := hide hw0
  have HN := hide (spec_l1New w0 (hb.below (hb0.mono hB)) (by omega))
  have HB0 := hide hb0
  clear hw0 hb0 hb
  go_enter Try.func60, Try.ntmps60
  go_wp2_with fail
  rw [← HW0.out]
  refine HN.out.mono ?_
  rintro e w1 ⟨rfl, hb1, hc1⟩
  have hs1 := hb1.size
  have HB1 := hide (HB0.out.trans (hb1.mono (by omega)))
  have PR1 := hide ((hb1.block _ (by omega)).trans PR.out)
  have hca1 := hc1.lt
  clear hb1 HN
  go_wp2_with fail
  refine (spec_l5Any w1 hc1).mono ?_
  rintro e w2 ⟨k, i, o, A3, n3, c3, xs, rfl, hk0, hk1, hi0, hi7, ho1', ho3', hxl, hR, ho2, hc2⟩
  have hs2 := ho2.size
  have HB2 := hide (HB1.out.trans (ho2.below (B := w.heap.size) (by omega) (fun q hq e => by omega)))
  have PR2 := hide ((ho2.block _ (by omega) (by omega)).trans PR1.out)
  obtain ⟨w3, hw3⟩ : ∃ W, W = w2.alloc (.cells #[.int .i64 k, .int .i64 i, .int .i64 o, .slice A3 n3 c3] 52) := ⟨_, rfl⟩
  have hb3 : Below w2.heap.size w2 w3 := hw3 ▸ (Below.refl _ _).alloc (Nat.le_refl _) _
  have PG3 := hide (show w3.heap[w2.heap.size]? = some (.cells #[.int .i64 k, .int .i64 i, .int .i64 o, .slice A3 n3 c3] 52 (0, 0)) from by rw [hw3]; exact heap_alloc_new _ _)
  have hl3 : w2.heap.size < w3.heap.size := by rw [hw3]; simp
  have HW3 := hide hw3
  have HB3 := hide (HB2.out.trans (hb3.mono (by omega)))
  have PR3 := hide ((hb3.block _ (by omega)).trans PR2.out)
  have hR3 := hR.below hb3
  have hc3 := hc2.below hb3
  clear hw3 hb3 hR hc2 hc1 ho2
  have hi3 : 0 < i ∨ ¬ 0 < i := by omega
  have hm3 : (if 0 < i then i else 0) ≤ 7 := by split <;> omega
  rcases hi3 with hi3 | hi3
  all_goals
    go_wp2_with fail
    rw [← HW3.out]
    refine (spec_l3Vec _ 7 w3 hc3 (by first | omega | (simp; omega)) (by omega)).mono ?_
    rintro e w5 ⟨v, ys, rfl, hl0, hl1, hys, hX, ho5, hc5⟩
    obtain ⟨A5, n5, c5, rfl, _⟩ := hX.rv
    have hs5 := ho5.size
    have HB5 := hide (HB3.out.trans (ho5.below (B := w.heap.size) (by omega) (fun q hq e => by omega)))
    have PR5 := hide ((ho5.block w.heap.size (by omega) (by omega)).trans PR3.out)
    have PG5 := hide ((ho5.block w2.heap.size (by omega) (by omega)).trans PG3.out)
    have HR5 := hide (hR3.only ho5 (fun q h1 h2 h3 => by omega))
    have HX5 := hide hX
    clear ho5 hys hX hR3 hc3
    go_wp2_with fail
    refine (spec_l1Once 10 w5 hc5 (by omega) (by omega)).mono ?_
    rintro e w6 ⟨b, rfl, ho6, hc6⟩
    have hs6 := ho6.size
    have hca := hc6.lt
    have HB6 := hide (HB5.out.trans (ho6.below (B := w.heap.size) (by omega) (fun q hq e => by omega)))
    have PR6 := hide ((ho6.block w.heap.size (by omega) (by omega)).trans PR5.out)
    have PG6 := hide ((ho6.block w2.heap.size (by omega) (by omega)).trans PG5.out)
    have HR6 := hide (HR5.out.only ho6 (fun q h1 h2 h3 => by omega))
    have HX6 := hide (HX5.out.only ho6 (fun q h1 h2 h3 => by omega))
    have pg6 := PG6.out
    have g0 := blk_cell pg6 0
    have g1 := blk_cell pg6 1
    have g2 := blk_cell pg6 2
    have g3 := blk_cell pg6 3
    simp at g0 g1 g2 g3
    have HC6 := hide hc6
    have hop : 0 < o := by omega
    clear pg6 ho6 hc5 hc6
    cases b
    · go_wp2_with fail
      have gate0 : True := trivial
      go_region_held3 (fun W => W.cell? ⟨w2.heap.size, 0, none⟩ = some (.int .i64 k) ∧ W.cell? ⟨w2.heap.size, 1, none⟩ = some (.int .i64 i) ∧ W.cell? ⟨w2.heap.size, 2, none⟩ = some (.int .i64 o) ∧ W.cell? ⟨w2.heap.size, 3, none⟩ = some (.slice A3 n3 c3)) (first | exact ⟨g0, g1, g2, g3⟩ | exact ⟨gk0, gk1, gk2, gk3⟩) (first
        | (clear gate0; go_at_call 121; refine (spec_l3Vec _ 7 w6.drew HC6.out.drewO (by first | omega | (simp; omega)) (by omega)).mono ?_; rintro e w7 ⟨v, zs, rfl, hm0, hm1, hys, hO7, ho7, hc7⟩; have ho7 : Only (fun b => b = w0.heap.size) w6 w7 := ho7.undrewO; have hO7 : OwI w7 w6.heap.size w7.heap.size v zs := hO7; obtain ⟨A7, n7, c7, rfl, _⟩ := hO7.rv; have hs7 := ho7.size; have HO7 := hide hO7; have HB7 := hide (HB6.out.trans (ho7.below (B := w.heap.size) (by omega) (fun q hq e => by omega))); have pr7 := (ho7.block w.heap.size (by omega) (by omega)).trans PR6.out; have pg7 := (ho7.block w2.heap.size (by omega) (by omega)).trans PG6.out; have HR7 := hide (HR6.out.only ho7 (fun q h1 h2 h3 => by omega)); have HX7 := hide (HX6.out.only ho7 (fun q h1 h2 h3 => by omega)); have gk := blk_far (blk_far (blk_far (blk_far (pg7) (b := w.heap.size) (j := 0) (by omega) (.int .i64 k)) (b := w.heap.size) (j := 1) (by omega) (.int .i64 i)) (b := w.heap.size) (j := 2) (by omega) (.int .i64 o)) (b := w.heap.size) (j := 3) (by omega) (.slice A3 n3 c3); have gk0 := blk_cell gk 0; have gk1 := blk_cell gk 1; have gk2 := blk_cell gk 2; have gk3 := blk_cell gk 3; replace g0 := blk_cell pg7 0; replace g1 := blk_cell pg7 1; replace g2 := blk_cell pg7 2; replace g3 := blk_cell pg7 3; simp at g0 g1 g2 g3 gk0 gk1 gk2 gk3; have q0 := blk_cell pr7 0; have q1 := blk_cell pr7 1; have q2 := blk_cell pr7 2; have q3 := blk_cell pr7 3; have qf0 := blk_free pr7 0; have qf1 := blk_free pr7 1; have qf2 := blk_free pr7 2; have qf3 := blk_free pr7 3; simp at q0 q1 q2 q3; have PR7 := hide pr7; clear pr7 pg7 gk hO7 ho7 hys))
      all_goals go_wp2_with fail
      all_goals refine bodyPost_ret (results_cell_row3 (P := Try.prog) (d := _) rfl _ _ w.heap.size 52 #[.int .i64 k, .int .i64 i, .int .i64 o, .slice A3 n3 c3] (0, 0) rfl ?_ Try.underlying52 rfl rfl) rfl ?_
      all_goals first
        | exact blk_set (blk_set (blk_set (blk_set (PR7.out) 0 _) 1 _) 2 _) 3 _
        | (have hS : Only (fun b => b = w.heap.size) w7 _ := ((((Only.refl (fun b => b = w.heap.size) w7).set w.heap.size 0 rfl (.int .i64 k)).set w.heap.size 1 rfl (.int .i64 i)).set w.heap.size 2 rfl (.int .i64 o)).set w.heap.size 3 rfl (.slice A3 n3 c3)
           exact ⟨k, i, o, A3, n3, c3, A5, n5, c5, A7, n7, c7, xs, ys, zs, rfl, hxl, by omega, by omega, (HR7.out.only hS (fun q h1 h2 h3 => by have h4 : q = w.heap.size := h3; omega)).ri.more (by simp [World.setCell]; omega), (HX7.out.only hS (fun q h1 h2 h3 => by have h4 : q = w.heap.size := h3; omega)).ri.more (by simp [World.setCell]; omega), (HO7.out.only hS (fun q h1 h2 h3 => by have h4 : q = w.heap.size := h3; omega)).ri.more (by simp [World.setCell]), below_set (below_set (below_set (below_set (HB7.out) _ _ (Nat.le_refl _) _) _ _ (Nat.le_refl _) _) _ _ (Nat.le_refl _) _) _ _ (Nat.le_refl _) _⟩)
    · go_wp2_with fail
      have gate0 : True := trivial
      go_region_held3 (fun W => W.cell? ⟨w2.heap.size, 0, none⟩ = some (.int .i64 k) ∧ W.cell? ⟨w2.heap.size, 1, none⟩ = some (.int .i64 i) ∧ W.cell? ⟨w2.heap.size, 2, none⟩ = some (.int .i64 o) ∧ W.cell? ⟨w2.heap.size, 3, none⟩ = some (.slice A3 n3 c3)) (first | exact ⟨g0, g1, g2, g3⟩ | exact ⟨gk0, gk1, gk2, gk3⟩) (first
        | (clear gate0; go_at_call 123; refine (spec_l3Any w6.drew HC6.out.drewO).mono ?_; rintro e w7 ⟨v, zs, rfl, hm0, hm1, hys, hO7, ho7, hc7⟩; have ho7 : Only (fun b => b = w0.heap.size) w6 w7 := ho7.undrewO; have hO7 : OwI w7 w6.heap.size w7.heap.size v zs := hO7; obtain ⟨A7, n7, c7, rfl, _⟩ := hO7.rv; have hs7 := ho7.size; have HO7 := hide hO7; have HB7 := hide (HB6.out.trans (ho7.below (B := w.heap.size) (by omega) (fun q hq e => by omega))); have pr7 := (ho7.block w.heap.size (by omega) (by omega)).trans PR6.out; have pg7 := (ho7.block w2.heap.size (by omega) (by omega)).trans PG6.out; have HR7 := hide (HR6.out.only ho7 (fun q h1 h2 h3 => by omega)); have HX7 := hide (HX6.out.only ho7 (fun q h1 h2 h3 => by omega)); have gk := blk_far (blk_far (blk_far (blk_far (pg7) (b := w.heap.size) (j := 0) (by omega) (.int .i64 k)) (b := w.heap.size) (j := 1) (by omega) (.int .i64 i)) (b := w.heap.size) (j := 2) (by omega) (.int .i64 o)) (b := w.heap.size) (j := 3) (by omega) (.slice A3 n3 c3); have gk0 := blk_cell gk 0; have gk1 := blk_cell gk 1; have gk2 := blk_cell gk 2; have gk3 := blk_cell gk 3; replace g0 := blk_cell pg7 0; replace g1 := blk_cell pg7 1; replace g2 := blk_cell pg7 2; replace g3 := blk_cell pg7 3; simp at g0 g1 g2 g3 gk0 gk1 gk2 gk3; have q0 := blk_cell pr7 0; have q1 := blk_cell pr7 1; have q2 := blk_cell pr7 2; have q3 := blk_cell pr7 3; have qf0 := blk_free pr7 0; have qf1 := blk_free pr7 1; have qf2 := blk_free pr7 2; have qf3 := blk_free pr7 3; simp at q0 q1 q2 q3; have PR7 := hide pr7; clear pr7 pg7 gk hO7 ho7 hys))
      all_goals go_wp2_with fail
      all_goals refine bodyPost_ret (results_cell_row3 (P := Try.prog) (d := _) rfl _ _ w.heap.size 52 #[.int .i64 k, .int .i64 i, .int .i64 o, .slice A3 n3 c3] (0, 0) rfl ?_ Try.underlying52 rfl rfl) rfl ?_
      all_goals first
        | exact blk_set (blk_set (blk_set (blk_set (PR7.out) 0 _) 1 _) 2 _) 3 _
        | (have hS : Only (fun b => b = w.heap.size) w7 _ := ((((Only.refl (fun b => b = w.heap.size) w7).set w.heap.size 0 rfl (.int .i64 k)).set w.heap.size 1 rfl (.int .i64 i)).set w.heap.size 2 rfl (.int .i64 o)).set w.heap.size 3 rfl (.slice A3 n3 c3)
           exact ⟨k, i, o, A3, n3, c3, A5, n5, c5, A7, n7, c7, xs, ys, zs, rfl, hxl, by omega, by omega, (HR7.out.only hS (fun q h1 h2 h3 => by have h4 : q = w.heap.size := h3; omega)).ri.more (by simp [World.setCell]; omega), (HX7.out.only hS (fun q h1 h2 h3 => by have h4 : q = w.heap.size := h3; omega)).ri.more (by simp [World.setCell]; omega), (HO7.out.only hS (fun q h1 h2 h3 => by have h4 : q = w.heap.size := h3; omega)).ri.more (by simp [World.setCell]), below_set (below_set (below_set (below_set (HB7.out) _ _ (Nat.le_refl _) _) _ _ (Nat.le_refl _) _) _ _ (Nat.le_refl _) _) _ _ (Nat.le_refl _) _⟩)
end Go.Proofs.Ytehfglfbnjdcoaa
