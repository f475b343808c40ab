/-
  Matrices that are drawn.
-/
import Derived.Test.YtceeijbnhnpfgaaDraw
import Derived.Test.YtceeijbnhnpfgaaStru
import Derived.Test.YtceeijbnhnpfgaaRec
import Derived.Test.YtceeijbnhnpfgaaOut
import Derived.Deep.RegionHeld3
import Derived.Deep.RegionLaw
namespace Go.Proofs.Ytceeijbnhnpfgaa
open Go.RowKit

/-- a matrix is drawn, into new memory -/
def DrawnM (B : Nat) (A : Option Addr) (n cap a : Nat) (w : World) (e : Ending) (w' : World) : Prop :=
  ∃ (r k : Int) (A' : Option Addr) (n' c' : Nat) (xs : List Int), e = .returned (Matv r k A' n' c') ∧ 0 ≤ r ∧ r ≤ 7 ∧ xs.length ≤ 9 ∧ OwI w' w.heap.size w'.heap.size (.slice A' n' c') xs ∧ Only (fun b => b = a) w w' ∧ Cur B A n cap a w'
theorem only_new {w w1 w2 : World} {a L : Nat} (h : Only (fun b => b = a) w w1) (k : Only (fun b => L ≤ b) w1 w2) (hL : w.heap.size ≤ L) : Only (fun b => b = a) w w2 :=
  ⟨k.os.trans h.os, k.tape.trans h.tape, k.output.trans h.output, Nat.le_trans h.size k.size, fun q hq hn => (k.block q (by have := h.size; omega) (by omega)).trans (h.block q hq hn)⟩
theorem RI.drewM {w : World} {B n c : Nat} {A : Option Addr} {xs : List Int} (h : RI w B A n c xs) : RI w.drew B A n c xs := h
theorem Only.undrew {w w' : World} {p : Nat → Prop} (h : Only p w.drew w') : Only p w w' := ⟨h.os, h.tape, h.output, h.size, h.block⟩
theorem Cur.drew {B n cap a : Nat} {A : Option Addr} {w : World} (h : Cur B A n cap a w) : Cur B A n cap a w.drew := ⟨h.base, h.blk, h.bytes⟩
theorem mul_small {x y : Int} (hx0 : 0 ≤ x) (hx1 : x ≤ 2) (hy0 : 0 ≤ y) (hy1 : y ≤ 2) : 1 ≤ (1 + x) * (1 + y) ∧ (1 + x) * (1 + y) ≤ 9 := by
  have h1 : x = 0 ∨ x = 1 ∨ x = 2 := by omega
  rcases h1 with rfl | rfl | rfl <;> omega
section
variable {B n cap a : Nat} {A : Option Addr}
set_option maxHeartbeats 1000000 in
theorem spec_l4Mat (w : World) (h : Cur B A n cap a w) : Calls Try.prog 42 #[.pointer (some ⟨a, 0, none⟩)] w (DrawnM B A n cap a w) := by
  have hlt := h.lt
  have hBa := h.base
  obtain ⟨w0, hw0⟩ : ∃ W, W = w.alloc (.cells #[.int .i64 0, .int .i64 0, .slice none 0 0] 38) := ⟨_, rfl⟩
  have hb0 : Below w.heap.size w w0 := hw0 ▸ (Below.refl _ _).alloc (Nat.le_refl _) _
  have s0 : w0.heap.size = w.heap.size + 1 := by rw [hw0]; simp
  have PR := hide (show w0.heap[w.heap.size]? = some (.cells #[.int .i64 0, .int .i64 0, .slice none 0 0] 38 (0, 0)) from by rw [hw0]; exact heap_alloc_new _ _)
  have HW0 := hide hw0
  have HB := hide (spec_l1Below 3 w0 (h.below hb0) (by omega) (by omega))
  have HO0 := hide (show Only (fun b => b = a) w w0 from Only.of_below hb0)
  have hl0' : w.heap.size + 1 ≤ w0.heap.size := by omega
  clear hw0 hb0 h s0
  go_enter Try.func42, Try.ntmps42
  go_wp2_with fail
  rw [← HW0.out]
  refine HB.out.mono ?_
  rintro e w1 ⟨x, rfl, hx0, hx1, ho1, hc1⟩
  have hs1 := ho1.size
  have HO1 := hide (HO0.out.trans ho1)
  have PR1 := hide ((ho1.block _ (by omega) (by omega)).trans PR.out)
  clear ho1 HB
  go_wp2_with fail
  refine (spec_l1Below 3 w1 hc1 (by omega) (by omega)).mono ?_
  rintro e w2 ⟨y, rfl, hy0, hy1, ho2, hc2⟩
  have hs2 := ho2.size
  have HO2 := hide (HO1.out.trans ho2)
  have PR2 := hide ((ho2.block _ (by omega) (by omega)).trans PR1.out)
  have hmul := mul_small hx0 (by omega) hy0 (by omega)
  obtain ⟨p, hp⟩ : ∃ p, (1 + x) * (1 + y) = p := ⟨_, rfl⟩
  rw [hp] at hmul
  obtain ⟨hp1, hp9⟩ := hmul
  have hwp : IntKind.i64.wrap p = p := by rw [IntKind.wrap_i64]; omega
  clear ho2 hc1
  go_wp2_with fail
  refine (spec_l3Vec p 9 w2 hc2 (by omega) (by omega)).mono ?_
  rintro e w3 ⟨v, xs, rfl, hl0, hl1, hxs, hO, ho3, hc3⟩
  have hs3 := ho3.size
  have HO3 := hide (HO2.out.trans ho3)
  have PR3 := hide ((ho3.block _ (by omega) (by omega)).trans PR2.out)
  obtain ⟨A3, n3, c3, rfl, _⟩ := hO.rv
  clear ho3 hc2 hxs hp hwp
  obtain ⟨w4, hw4⟩ : ∃ W, W = w3.alloc (.cells #[.int .i64 (1 + x), .int .i64 (1 + y), .slice A3 n3 c3] 38) := ⟨_, rfl⟩
  have hb4 : Below w3.heap.size w3 w4 := hw4 ▸ (Below.refl _ _).alloc (Nat.le_refl _) _
  have PG4 := hide (show w4.heap[w3.heap.size]? = some (.cells #[.int .i64 (1 + x), .int .i64 (1 + y), .slice A3 n3 c3] 38 (0, 0)) from by rw [hw4]; exact heap_alloc_new _ _)
  have hl4 : w3.heap.size < w4.heap.size := by rw [hw4]; simp
  have HW4 := hide hw4
  have HO4 := hide (HO3.out.trans (Only.of_below hb4))
  have PR4 := hide ((hb4.block _ (by omega)).trans PR3.out)
  have hO4 := hO.below hb4
  have hc4 := hc3.below hb4
  clear hw4 hb4 hO hc3
  go_wp2_with fail
  rw [← HW4.out]
  refine (spec_l1Below 16 w4 hc4 (by omega) (by omega)).mono ?_
  rintro e w5 ⟨z, rfl, hz0, hz1, ho5, hc5⟩
  have hs5 := ho5.size
  have HO5 := hide (HO4.out.trans ho5)
  have PR5 := hide ((ho5.block _ (by omega) (by omega)).trans PR4.out)
  have PG5 := hide ((ho5.block w3.heap.size (by omega) (by omega)).trans PG4.out)
  have hO5 := hO4.only ho5 (fun q h1 h2 h3 => by omega)
  clear ho5 hc4 hO4
  by_cases z0 : z = 0
  · subst z0
    go_wp2_with fail
    refine (spec_pick [0, 7, 1 + x + 1] hc5 (m := 3) rfl (lo := 0) (hi := 7) (by omega) (by omega) (fun j hj => by
      match j, hj with
      | 0, _ => simp
      | 1, _ => simp
      | 2, _ => simp; omega)).mono ?_
    rintro e w6 ⟨u, rfl, hu0, hu1, ho6, hc6⟩
    have hs6 := ho6.size
    have HO6 := hide (HO5.out.trans ho6)
    have pr6 := (ho6.block _ (by omega) (by omega)).trans PR5.out
    have pg6 := (ho6.block w3.heap.size (by omega) (by omega)).trans PG5.out
    have PR6 := hide pr6
    have HOW := hide (hO5.only ho6 (fun q h1 h2 h3 => by omega))
    clear ho6 hc5 hO5
    have g0 := blk_cell pg6 0
    have g1 := blk_cell pg6 1
    have g2 := blk_cell pg6 2
    have q0 := blk_cell pr6 0
    have q1 := blk_cell pr6 1
    have q2 := blk_cell pr6 2
    have y0 := blk_free pr6 0
    have y1 := blk_free pr6 1
    have y2 := blk_free pr6 2
    have v0 := blk_free pg6 0
    simp at g0 g1 g2 q0 q1 q2
    go_wp2_with fail
    refine bodyPost_ret (results_cell_row (P := Try.prog) (d := _) rfl _ _ w.heap.size 38 #[.int .i64 u, .int .i64 (1 + y), .slice A3 n3 c3] (0, 0) rfl ?_ Try.underlying38 rfl rfl) rfl ?_
    · exact blk_set (blk_set (blk_set (blk_far pr6 (by omega) _) 0 _) 1 _) 2 _
    · have hH : Only (fun b => w.heap.size ≤ b) w6 _ := (((((Only.refl (fun b => w.heap.size ≤ b) w6).set w3.heap.size 0 (by omega) (.int .i64 u)).set w.heap.size 0 (by omega) (.int .i64 u)).set w.heap.size 1 (by omega) (.int .i64 (1 + y))).set w.heap.size 2 (by omega) (.slice A3 n3 c3))
      have hS : Only (fun b => b = w3.heap.size ∨ b = w.heap.size) w6 _ := (((((Only.refl (fun b => b = w3.heap.size ∨ b = w.heap.size) w6).set w3.heap.size 0 (by omega) (.int .i64 u)).set w.heap.size 0 (by omega) (.int .i64 u)).set w.heap.size 1 (by omega) (.int .i64 (1 + y))).set w.heap.size 2 (by omega) (.slice A3 n3 c3))
      exact ⟨u, 1 + y, A3, n3, c3, xs, rfl, by omega, by omega, by omega, (HOW.out.only hS (fun q h1 h2 h3 => by omega)).more (by omega) (by first | (simp [World.setCell]; done) | (simp [World.setCell]; omega)), only_new HO6.out hH (Nat.le_refl _), hc6.only hH (fun q hq => by omega)⟩
  have b0 : (z == 0) = false := by simpa using z0
  by_cases z1 : z = 1
  · subst z1
    have hlen : 0 < xs.length := by omega
    obtain ⟨hown, hhi⟩ := hO5
    obtain ⟨gd, cp, cur, hv, hgd⟩ : ∃ gd cp cur, Value.slice A3 n3 c3 = .slice (some ⟨gd, 0, none⟩) xs.length cp ∧ w2.heap.size ≤ gd := by
      rcases hown.2 with ⟨_, h0⟩ | ⟨g, cp, cur, hv, hg, _⟩
      · simp at h0; rw [h0] at hlen; simp at hlen
      · exact ⟨g, cp, cur, hv, hg⟩
    simp only [Value.slice.injEq] at hv
    obtain ⟨rfl, rfl, rfl⟩ := hv
    have hgl := hhi gd rfl
    have HOWN := hide hown
    have pg5 := PG5.out
    have g2 := blk_cell pg5 2
    simp at g2
    have hi1 : (0 : Int) < (xs.length : Int) := by omega
    have HC5 := hide hc5
    clear hown hhi pg5 hc5
    go_wp2_with fail
    have gate0 : True := trivial
    go_region_held3 (fun W => W.cell? ⟨w3.heap.size, 2, none⟩ = some (.slice (some ⟨gd, 0, none⟩) xs.length c3)) (first | exact g2 | exact gk) (first
      | (clear gate0; go_at_call 58; refine (spec_l2Raw w5.drew HC5.out.drew).mono ?_; rintro e w6 ⟨u, rfl, hu0, hu1, ho6, hc6⟩; have ho6 : Only (fun b => b = a) w5 w6 := ho6.undrew; have hs6 := ho6.size; have hO6 := OI.only (OI.of_own HOWN.out) ho6 (fun q h1 h2 h3 => by omega); have hst := hO6.1.stored 0 (iv u); have HST := hide hst.1; have hdst : w6.cell? ⟨gd, 0, none⟩ = some ((ivs xs).getD 0 undef) := (by rw [hO6.1.cellAt 0 (by omega)]; have := hO6.1.1; rw [List.getD, List.getElem?_eq_getElem (by omega)]; rfl); have hfr := hO6.1.frozenAt 0; have pg6 := (ho6.block w3.heap.size (by omega) (by omega)).trans PG5.out; have gk6 := blk_far pg6 (b := gd) (j := 0) (by omega) (.int .i64 u); have gk := blk_cell gk6 2; replace g2 := blk_cell pg6 2; simp at gk g2; have PG7 := hide gk6; have PR7 := hide (blk_far ((ho6.block w.heap.size (by omega) (by omega)).trans PR5.out) (b := gd) (j := 0) (by omega) (.int .i64 u)); have HO6 := hide (HO5.out.trans ho6); clear hst hO6 pg6 gk6 ho6))
    obtain ⟨wd, hwd⟩ : ∃ W, W = w6.setCell ⟨gd, 0, none⟩ (.int .i64 u) := ⟨_, rfl⟩
    rw [← hwd]
    have pg7 := PG7.out
    have pr7 := PR7.out
    have hst := HST.out
    have hon : Only (fun b => w2.heap.size ≤ b) w6 (w6.setCell ⟨gd, 0, none⟩ (.int .i64 u)) := (Only.refl (fun b => w2.heap.size ≤ b) w6).set gd 0 hgd _
    have hc7 : Cur B A n cap a (w6.setCell ⟨gd, 0, none⟩ (.int .i64 u)) := hc6.only hon (fun q hq => by omega)
    have HO7 := hide (only_new HO6.out hon (by omega))
    have hsd : w6.heap.size ≤ (w6.setCell ⟨gd, 0, none⟩ (.int .i64 u)).heap.size := hon.size
    have HOW := hide (OI.of_own (xs := xs.set 0 u) (n := xs.length) (by
      have := hst
      simp only [ivs, iv] at this ⊢
      rw [List.map_set]
      exact this))
    rw [← hwd] at pg7 pr7 hc7 HO7 HOW hsd
    have HWD := hide hwd
    clear hst hon hwd g2 gk hdst hfr
    have g0 := blk_cell pg7 0
    have g1 := blk_cell pg7 1
    have g2 := blk_cell pg7 2
    have q0 := blk_cell pr7 0
    have q1 := blk_cell pr7 1
    have q2 := blk_cell pr7 2
    have y0 := blk_free pr7 0
    have y1 := blk_free pr7 1
    have y2 := blk_free pr7 2
    have v0 := blk_free pg7 0
    simp at g0 g1 g2 q0 q1 q2
    go_wp2_with fail
    refine bodyPost_ret (results_cell_row (P := Try.prog) (d := _) rfl _ _ w.heap.size 38 #[.int .i64 (1 + x), .int .i64 (1 + y), .slice (some ⟨gd, 0, none⟩) xs.length c3] (0, 0) rfl ?_ Try.underlying38 rfl rfl) rfl ?_
    · exact blk_set (blk_set (blk_set (pr7) 0 _) 1 _) 2 _
    · have hH : Only (fun b => w.heap.size ≤ b) wd _ := ((((Only.refl (fun b => w.heap.size ≤ b) wd).set w.heap.size 0 (by omega) (.int .i64 (1 + x))).set w.heap.size 1 (by omega) (.int .i64 (1 + y))).set w.heap.size 2 (by omega) (.slice (some ⟨gd, 0, none⟩) xs.length c3))
      have hS : Only (fun b => b = w.heap.size) wd _ := ((((Only.refl (fun b => b = w.heap.size) wd).set w.heap.size 0 (by omega) (.int .i64 (1 + x))).set w.heap.size 1 (by omega) (.int .i64 (1 + y))).set w.heap.size 2 (by omega) (.slice (some ⟨gd, 0, none⟩) xs.length c3))
      exact ⟨(1 + x), 1 + y, (some ⟨gd, 0, none⟩), xs.length, c3, xs.set 0 u, rfl, by omega, by omega, by simp; omega, (HOW.out.only hS (fun q h1 h2 h3 => by omega)).more (by omega) (by first | (simp [World.setCell]; done) | (simp [World.setCell]; omega)), only_new HO7.out hH (Nat.le_refl _), hc7.only hH (fun q hq => by omega)⟩
  have b1 : (z == 1) = false := by simpa using z1
  have pr5 := PR5.out
  have pg5 := PG5.out
  clear z0 z1
  have g0 := blk_cell pg5 0
  have g1 := blk_cell pg5 1
  have g2 := blk_cell pg5 2
  have q0 := blk_cell pr5 0
  have q1 := blk_cell pr5 1
  have q2 := blk_cell pr5 2
  have y0 := blk_free pr5 0
  have y1 := blk_free pr5 1
  have y2 := blk_free pr5 2
  have v0 := blk_free pg5 0
  simp at g0 g1 g2 q0 q1 q2
  go_wp2_with fail
  refine bodyPost_ret (results_cell_row (P := Try.prog) (d := _) rfl _ _ w.heap.size 38 #[.int .i64 (1 + x), .int .i64 (1 + y), .slice A3 n3 c3] (0, 0) rfl ?_ Try.underlying38 rfl rfl) rfl ?_
  · exact blk_set (blk_set (blk_set (pr5) 0 _) 1 _) 2 _
  · have hH : Only (fun b => w.heap.size ≤ b) w5 _ := ((((Only.refl (fun b => w.heap.size ≤ b) w5).set w.heap.size 0 (by omega) (.int .i64 (1 + x))).set w.heap.size 1 (by omega) (.int .i64 (1 + y))).set w.heap.size 2 (by omega) (.slice A3 n3 c3))
    have hS : Only (fun b => b = w.heap.size) w5 _ := ((((Only.refl (fun b => b = w.heap.size) w5).set w.heap.size 0 (by omega) (.int .i64 (1 + x))).set w.heap.size 1 (by omega) (.int .i64 (1 + y))).set w.heap.size 2 (by omega) (.slice A3 n3 c3))
    exact ⟨(1 + x), 1 + y, A3, n3, c3, xs, rfl, by omega, by omega, by omega, (hO5.only hS (fun q h1 h2 h3 => by omega)).more (by omega) (by first | (simp [World.setCell]; done) | (simp [World.setCell]; omega)), only_new HO5.out hH (Nat.le_refl _), hc5.only hH (fun q hq => by omega)⟩
end
theorem spec_DrawOuter {B n cap : Nat} {A : Option Addr} (w : World) (hb : BA w B A n cap) (hB : B ≤ w.heap.size) : Calls Try.prog 23 #[.slice A n cap] w (Drawn2 w 7) := by
  have HN := hide (spec_l1New w hb hB)
  clear hb
  go_enter Try.func23, Try.ntmps23
  go_wp2_with fail
  refine HN.out.mono ?_
  rintro e w1 ⟨rfl, hb, hc⟩
  go_wp2_with fail
  refine (spec_l3Any _ hc).mono ?_
  rintro e w2 ⟨v, xs, rfl, hl0, hl1, hxs, hO, ho, hc2⟩
  have HX := hide hxs
  have hs := hb.size
  have hs2 := ho.size
  have hca := hc.lt
  clear hxs hc HN
  go_wp2_with fail
  refine (spec_l3Any _ hc2).mono ?_
  rintro e w3 ⟨u, ys, rfl, hm0, hm1, hys, hO3, ho3, hc3⟩
  have HY := hide hys
  have hs3 := ho3.size
  clear hys hc2
  go_wp2_with fail
  go_ret2
  exact ⟨v, u, xs, ys, rfl, hl1, hm1, HX.out, HY.out, ((hO.only ho3 (fun q h1 h2 h3 => by omega)).rv.more (by omega)), hO3.rv, hb.trans ((ho.trans ho3).below hs (fun k hk e => by omega))⟩
/-- a matrix and numbers are drawn -/
def DrawnMV (w : World) (e : Ending) (w' : World) : Prop :=
  ∃ (r k : Int) (A' : Option Addr) (n' c' : Nat) (A2 : Option Addr) (n2 c2 : Nat) (xs ys : List Int), e = .returned (.tuple #[Matv r k A' n' c', .slice A2 n2 c2]) ∧ xs.length ≤ 9 ∧ ys.length ≤ 7 ∧ RI w' w'.heap.size A' n' c' xs ∧ RI w' w'.heap.size A2 n2 c2 ys ∧ Below w.heap.size w w'
set_option maxHeartbeats 1000000 in
theorem spec_DrawMatBack {B n cap : Nat} {A : Option Addr} (w : World) (hb : BA w B A n cap) (hB : B ≤ w.heap.size) : Calls Try.prog 17 #[.slice A n cap] w (DrawnMV w) := by
  obtain ⟨w0, hw0⟩ : ∃ W, W = w.alloc (.cells #[.int .i64 0, .int .i64 0, .slice none 0 0] 38) := ⟨_, rfl⟩
  have hb0 : Below w.heap.size w w0 := hw0 ▸ (Below.refl _ _).alloc (Nat.le_refl _) _
  have s0 : w.heap.size < w0.heap.size := by rw [hw0]; simp
  have PR := hide (show w0.heap[w.heap.size]? = some (.cells #[.int .i64 0, .int .i64 0, .slice none 0 0] 38 (0, 0)) from by rw [hw0]; exact heap_alloc_new _ _)
  have HW0 := hide hw0
  have HN := hide (spec_l1New w0 (hb.below (hb0.mono hB)) (by omega))
  have HB0 := hide hb0
  clear hw0 hb0 hb
  go_enter Try.func17, Try.ntmps17
  go_wp2_with fail
  rw [← HW0.out]
  refine HN.out.mono ?_
  rintro e w1 ⟨rfl, hb1, hc1⟩
  have hs1 := hb1.size
  have HB1 := hide (HB0.out.trans (hb1.mono (by omega)))
  have PR1 := hide ((hb1.block _ (by omega)).trans PR.out)
  have hca1 := hc1.lt
  clear hb1 HN
  go_wp2_with fail
  refine (spec_l4Mat w1 hc1).mono ?_
  rintro e w2 ⟨r, k, A3, n3, c3, xs, rfl, hr0, hr7, hxl, hR, ho2, hc2⟩
  have hs2 := ho2.size
  have HB2 := hide (HB1.out.trans (ho2.below (B := w.heap.size) (by omega) (fun q hq e => by omega)))
  have PR2 := hide ((ho2.block _ (by omega) (by omega)).trans PR1.out)
  obtain ⟨w3, hw3⟩ : ∃ W, W = w2.alloc (.cells #[.int .i64 r, .int .i64 k, .slice A3 n3 c3] 38) := ⟨_, rfl⟩
  have hb3 : Below w2.heap.size w2 w3 := hw3 ▸ (Below.refl _ _).alloc (Nat.le_refl _) _
  have PG3 := hide (show w3.heap[w2.heap.size]? = some (.cells #[.int .i64 r, .int .i64 k, .slice A3 n3 c3] 38 (0, 0)) from by rw [hw3]; exact heap_alloc_new _ _)
  have hl3 : w2.heap.size < w3.heap.size := by rw [hw3]; simp
  have HW3 := hide hw3
  have HB3 := hide (HB2.out.trans (hb3.mono (by omega)))
  have PR3 := hide ((hb3.block _ (by omega)).trans PR2.out)
  have hR3 := hR.below hb3
  have hc3 := hc2.below hb3
  clear hw3 hb3 hR hc2 hc1 ho2
  go_wp2_with fail
  rw [← HW3.out]
  refine (spec_l1Once 8 w3 hc3 (by omega) (by omega)).mono ?_
  rintro e w4 ⟨b, rfl, ho4, hc4⟩
  have hs4 := ho4.size
  have hca := hc4.lt
  have HB4 := hide (HB3.out.trans (ho4.below (B := w.heap.size) (by omega) (fun q hq e => by omega)))
  have PR4 := hide ((ho4.block w.heap.size (by omega) (by omega)).trans PR3.out)
  have PG4 := hide ((ho4.block w2.heap.size (by omega) (by omega)).trans PG3.out)
  have HR4 := hide (hR3.only ho4 (fun q h1 h2 h3 => by omega))
  have pg4 := PG4.out
  have g0 := blk_cell pg4 0
  have g1 := blk_cell pg4 1
  have g2 := blk_cell pg4 2
  simp at g0 g1 g2
  have HC4 := hide hc4
  clear pg4 hR3 ho4 hc3 hc4
  have hr3 : (¬ 0 < r ∧ ¬ 6 < r) ∨ (0 < r ∧ ¬ 6 < r) ∨ 6 < r := by omega
  cases b
  · rcases hr3 with ⟨hr1, hr2⟩ | ⟨hr1, hr2⟩ | hr1
    all_goals
      go_wp2_with fail
      have gate0 : True := trivial
      go_region_held3 (fun W => W.cell? ⟨w2.heap.size, 0, none⟩ = some (.int .i64 r) ∧ W.cell? ⟨w2.heap.size, 1, none⟩ = some (.int .i64 k) ∧ W.cell? ⟨w2.heap.size, 2, none⟩ = some (.slice A3 n3 c3)) (first | exact ⟨g0, g1, g2⟩ | exact ⟨gk0, gk1, gk2⟩) (first
        | (clear gate0; go_at_call 45; refine (spec_l3Vec _ 7 w4.drew HC4.out.drew (by first | omega | (simp; omega)) (by omega)).mono ?_; rintro e w5 ⟨v, ys, rfl, hm0, hm1, hys, hO5, ho5, hc5⟩; have ho5 : Only (fun b => b = w0.heap.size) w4 w5 := ho5.undrew; have hO5 : OwI w5 w4.heap.size w5.heap.size v ys := hO5; obtain ⟨A5, n5, c5, rfl, _⟩ := hO5.rv; have hs5 := ho5.size; have HO5 := hide hO5; have HB5 := hide (HB4.out.trans (ho5.below (B := w.heap.size) (by omega) (fun q hq e => by omega))); have pr5 := (ho5.block w.heap.size (by omega) (by omega)).trans PR4.out; have pg5 := (ho5.block w2.heap.size (by omega) (by omega)).trans PG4.out; have HR5 := hide (HR4.out.only ho5 (fun q h1 h2 h3 => by omega)); have q0 := blk_cell pr5 0; have q1 := blk_cell pr5 1; have q2 := blk_cell pr5 2; have y0 := blk_free pr5 0; have y1 := blk_free pr5 1; have y2 := blk_free pr5 2; have gk := blk_far (blk_far (blk_far pg5 (b := w.heap.size) (j := 0) (by omega) (.int .i64 r)) (b := w.heap.size) (j := 1) (by omega) (.int .i64 k)) (b := w.heap.size) (j := 2) (by omega) (.slice A3 n3 c3); have gk0 := blk_cell gk 0; have gk1 := blk_cell gk 1; have gk2 := blk_cell gk 2; replace g0 := blk_cell pg5 0; replace g1 := blk_cell pg5 1; replace g2 := blk_cell pg5 2; simp at q0 q1 q2 g0 g1 g2 gk0 gk1 gk2; have PR5 := hide pr5; clear pr5 pg5 gk hO5 ho5 hys))
      all_goals go_wp2_with fail
      all_goals refine bodyPost_ret (results_cell_row2 (P := Try.prog) (d := _) rfl _ _ w.heap.size 38 #[.int .i64 r, .int .i64 k, .slice A3 n3 c3] (0, 0) rfl ?_ Try.underlying38 rfl rfl) rfl ?_
      all_goals first
        | exact blk_set (blk_set (blk_set PR5.out 0 _) 1 _) 2 _
        | (have hS : Only (fun b => b = w.heap.size) w5 _ := ((((Only.refl (fun b => b = w.heap.size) w5).set w.heap.size 0 rfl (.int .i64 r)).set w.heap.size 1 rfl (.int .i64 k)).set w.heap.size 2 rfl (.slice A3 n3 c3))
           exact ⟨r, k, A3, n3, c3, A5, n5, c5, xs, ys, rfl, hxl, by omega, (HR5.out.only hS (fun q h1 h2 h3 => by have h4 : q = w.heap.size := h3; omega)).ri.more (by simp [World.setCell]; omega), (HO5.out.only hS (fun q h1 h2 h3 => by have h4 : q = w.heap.size := h3; omega)).ri.more (by simp [World.setCell]), below_set (below_set (below_set HB5.out _ _ (Nat.le_refl _) _) _ _ (Nat.le_refl _) _) _ _ (Nat.le_refl _) _⟩)
  · go_wp2_with fail
    have gate0 : True := trivial
    go_region_held3 (fun W => W.cell? ⟨w2.heap.size, 0, none⟩ = some (.int .i64 r) ∧ W.cell? ⟨w2.heap.size, 1, none⟩ = some (.int .i64 k) ∧ W.cell? ⟨w2.heap.size, 2, none⟩ = some (.slice A3 n3 c3)) (first | exact ⟨g0, g1, g2⟩ | exact ⟨gk0, gk1, gk2⟩) (first
      | (clear gate0; go_at_call 44; refine (spec_l3Any w4.drew HC4.out.drew).mono ?_; rintro e w5 ⟨v, ys, rfl, hm0, hm1, hys, hO5, ho5, hc5⟩; have ho5 : Only (fun b => b = w0.heap.size) w4 w5 := ho5.undrew; have hO5 : OwI w5 w4.heap.size w5.heap.size v ys := hO5; obtain ⟨A5, n5, c5, rfl, _⟩ := hO5.rv; have hs5 := ho5.size; have HO5 := hide hO5; have HB5 := hide (HB4.out.trans (ho5.below (B := w.heap.size) (by omega) (fun q hq e => by omega))); have pr5 := (ho5.block w.heap.size (by omega) (by omega)).trans PR4.out; have pg5 := (ho5.block w2.heap.size (by omega) (by omega)).trans PG4.out; have HR5 := hide (HR4.out.only ho5 (fun q h1 h2 h3 => by omega)); have q0 := blk_cell pr5 0; have q1 := blk_cell pr5 1; have q2 := blk_cell pr5 2; have y0 := blk_free pr5 0; have y1 := blk_free pr5 1; have y2 := blk_free pr5 2; have gk := blk_far (blk_far (blk_far pg5 (b := w.heap.size) (j := 0) (by omega) (.int .i64 r)) (b := w.heap.size) (j := 1) (by omega) (.int .i64 k)) (b := w.heap.size) (j := 2) (by omega) (.slice A3 n3 c3); have gk0 := blk_cell gk 0; have gk1 := blk_cell gk 1; have gk2 := blk_cell gk 2; replace g0 := blk_cell pg5 0; replace g1 := blk_cell pg5 1; replace g2 := blk_cell pg5 2; simp at q0 q1 q2 g0 g1 g2 gk0 gk1 gk2; have PR5 := hide pr5; clear pr5 pg5 gk hO5 ho5 hys))
    all_goals go_wp2_with fail
    all_goals refine bodyPost_ret (results_cell_row2 (P := Try.prog) (d := _) rfl _ _ w.heap.size 38 #[.int .i64 r, .int .i64 k, .slice A3 n3 c3] (0, 0) rfl ?_ Try.underlying38 rfl rfl) rfl ?_
    all_goals first
      | exact blk_set (blk_set (blk_set PR5.out 0 _) 1 _) 2 _
      | (have hS : Only (fun b => b = w.heap.size) w5 _ := ((((Only.refl (fun b => b = w.heap.size) w5).set w.heap.size 0 rfl (.int .i64 r)).set w.heap.size 1 rfl (.int .i64 k)).set w.heap.size 2 rfl (.slice A3 n3 c3))
         exact ⟨r, k, A3, n3, c3, A5, n5, c5, xs, ys, rfl, hxl, by omega, (HR5.out.only hS (fun q h1 h2 h3 => by have h4 : q = w.heap.size := h3; omega)).ri.more (by simp [World.setCell]; omega), (HO5.out.only hS (fun q h1 h2 h3 => by have h4 : q = w.heap.size := h3; omega)).ri.more (by simp [World.setCell]), below_set (below_set (below_set HB5.out _ _ (Nat.le_refl _) _) _ _ (Nat.le_refl _) _) _ _ (Nat.le_refl _) _⟩)
end Go.Proofs.Ytceeijbnhnpfgaa
