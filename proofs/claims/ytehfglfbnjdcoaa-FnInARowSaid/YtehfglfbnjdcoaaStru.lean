/-
  The laws' own functions over structs of numbers and one slice of numbers.
-/
import Derived.Test.YtehfglfbnjdcoaaProg
import Derived.Test.YtehfglfbnjdcoaaInts
import Derived.WalkKit
namespace Go.Proofs.Ytehfglfbnjdcoaa
open Go.RowKit
set_option maxRecDepth 100000
section
variable {w : World} {a : Nat} {cs : Array Value} {t : TypeId}
theorem blk_cell (h : w.heap[a]? = some (.cells cs t (0, 0))) (j : Nat) : w.cell? ⟨a, j, none⟩ = cs[j]? := by simp [World.cell?, h]
theorem blk_free (h : w.heap[a]? = some (.cells cs t (0, 0))) (j : Nat) : w.frozen? ⟨a, j, none⟩ = false := by simp [World.frozen?, h]
theorem blk_set (h : w.heap[a]? = some (.cells cs t (0, 0))) (j : Nat) (u : Value) : (w.setCell ⟨a, j, none⟩ u).heap[a]? = some (.cells (cs.setIfInBounds j u) t (0, 0)) := by
  simp [World.setCell, Array.getElem?_modify, h]
theorem blk_far (h : w.heap[a]? = some (.cells cs t (0, 0))) {b j : Nat} (hne : a ≠ b) (u : Value) : (w.setCell ⟨b, j, none⟩ u).heap[a]? = some (.cells cs t (0, 0)) :=
  (Below.heap_setCell w _ u a hne).trans h
/-- what was drawn in between does not matter -/
theorem undrew {B : Nat} {w' : World} (h : Below B w.drew w') : Below B w w' := ⟨h.os, h.tape, h.output, h.size, h.block⟩
theorem onlySet {w' : World} {p : Nat → Prop} (h : Only p w w') {a : Addr} (ha : p a.block) (u : Value) : Only p w (w'.setCell a u) :=
  h.trans ⟨rfl, rfl, rfl, by simp [World.setCell], fun k _ hn => Below.heap_setCell _ _ _ _ (fun e => hn (e ▸ ha))⟩
/-- a box's cell, behind marks on another thing -/
theorem OI.boxfar {e : TypeId} {w' : World} {lo hi : Nat} {v : Value} {ys : List Int} {p : Addr} {x : Value} (hv : OI e w lo hi v ys) (ho : Only (fun b => v.ownBlock = some b) w w') (hc : w.cell? p = some x) (hd : p.block < lo ∨ hi ≤ p.block) : w'.cell? p = some x := by
  rw [ho.cell (World.block_lt_of_cell? w p hc) (fun h3 => by have := (hv.1.lt _ h3).1; have := hv.2 _ h3; omega)]
  exact hc
end
/-- what is left of a bulk -/
def szF (n : Nat) (k : Int) : Int := if k < (n : Int) then -1 else k - n
theorem szF_lo {n : Nat} {k : Int} (h : 0 ≤ szF n k) : szF n k = k - n ∧ (n : Int) ≤ k := by
  by_cases h1 : k < (n : Int)
  · rw [szF, if_pos h1] at h; omega
  · rw [szF, if_neg h1]; omega
theorem szF_case (n : Nat) (k : Int) : szF n k = -1 ∨ (0 ≤ szF n k ∧ (n : Int) ≤ k ∧ szF n k ≤ k) := by
  by_cases h1 : k < (n : Int)
  · exact .inl (by rw [szF, if_pos h1])
  · exact .inr (by rw [szF, if_neg h1]; omega)
theorem laws_szIntS (A : Option Addr) (n c : Nat) (k : Int) (w : World) (h0 : 0 ≤ k) (h1 : k ≤ 1048576) (hn : (n : Int) ≤ 9223372036854775807) :
    Calls Try.prog 73 #[.slice A n c, .int .i64 k] w fun e w' => e = .returned (.int .i64 (szF n k)) ∧ w = w' := by
  obtain ⟨m, hm⟩ : ∃ m : Int, (n : Int) = m := ⟨_, rfl⟩
  have H := hide hm
  by_cases hk : k < m
  · have hs : Go.RowKit.wrap64 (k - m) = k - m := by unfold Go.RowKit.wrap64; omega
    go_enter Try.func73, Try.ntmps73
    go_wp2
    go_ret
    exact ⟨rI (by rw [szF, if_pos (by rw [H.out]; omega)]), rfl⟩
  · go_enter Try.func73, Try.ntmps73
    go_wp2
    go_ret
    exact ⟨rI (by rw [szF, if_neg (by rw [H.out]; omega), H.out]), rfl⟩
/-- a value of the struct -/
abbrev Matv (f0 f1 : Int) (A : Option Addr) (n cap : Nat) : Value := .agg #[.int .i64 f0, .int .i64 f1, .slice A n cap]
/-- a value of the struct -/
abbrev Opv (f0 f1 f2 : Int) (A : Option Addr) (n cap : Nat) : Value := .agg #[.int .i64 f0, .int .i64 f1, .int .i64 f2, .slice A n cap]
theorem laws_toOp {B n cap : Nat} {A : Option Addr} {xs : List Int} (f0 f1 f2 : Int) (w : World) (h : RI w B A n cap xs) (hB : B ≤ w.heap.size) (hx : xs.length ≤ 1048576) :
    Calls Try.prog 29 #[Opv f0 f1 f2 A n cap] w fun e w' => ∃ A' n' c', e = .returned (Opv f0 f1 f2 A' n' c') ∧ OwI w' w.heap.size w'.heap.size (.slice A' n' c') xs ∧ Below w.heap.size w w' := by
  have HX := hide hx
  clear hx
  go_enter Try.func29, Try.ntmps29
  go_wp2_with fail
  obtain ⟨w1, hw1⟩ : ∃ w1, w1 = (w.alloc (.cells #[.int .i64 f0, .int .i64 f1, .int .i64 f2, .slice A n cap] 48)) := ⟨_, rfl⟩
  obtain ⟨w2, hw2⟩ : ∃ w2, w2 = (w1.alloc (.cells #[.int .i64 0, .int .i64 0, .int .i64 0, .slice none 0 0] 52)) := ⟨_, rfl⟩
  obtain ⟨w3, hw3⟩ : ∃ w3, w3 = (w2.alloc (.cells #[.int .i64 f0, .int .i64 f1, .int .i64 f2, .slice none 0 0] 52)) := ⟨_, rfl⟩
  have s1 : w1.heap.size = w.heap.size + 1 := by rw [hw1]; simp
  have s2 : w2.heap.size = w.heap.size + 1 + 1 := by rw [hw2]; simp [s1]
  have s3 : w3.heap.size = w.heap.size + 1 + 1 + 1 := by rw [hw3]; simp [s2]
  have hb1 : Below w.heap.size w w1 := hw1 ▸ (Below.refl _ _).alloc (Nat.le_refl _) _
  have hb2 : Below w.heap.size w w2 := hw2 ▸ hb1.alloc (by omega) _
  have hb3 : Below w.heap.size w w3 := hw3 ▸ hb2.alloc (by omega) _
  have p2 : w3.heap[w.heap.size + 1]? = some (.cells #[.int .i64 0, .int .i64 0, .int .i64 0, .slice none 0 0] 52 (0, 0)) := by
    rw [hw3, Below.heap_alloc _ _ _ (by omega), ← s1, hw2]; exact heap_alloc_new _ _
  have p3 : w3.heap[w.heap.size + 1 + 1]? = some (.cells #[.int .i64 f0, .int .i64 f1, .int .i64 f2, .slice none 0 0] 52 (0, 0)) := by
    rw [hw3, ← s2]; exact heap_alloc_new _ _
  rw [← hw1, ← hw2, ← hw3]
  clear hw1 hw2 hw3 hb1 hb2
  refine (toI w3 (h.below (hb3.mono hB)) (by omega) HX.out).mono ?_
  rintro e w4 ⟨A', n', c', rfl, hO, hb4⟩
  have s4 := hb4.size
  replace p2 := (hb4.block _ (by omega)).trans p2
  replace p3 := (hb4.block _ (by omega)).trans p3
  clear h s1 s2
  have p3' := blk_set p3 3 (.slice A' n' c')
  have p2' := blk_far p2 (b := w.heap.size + 1 + 1) (j := 3) (by omega) (.slice A' n' c')
  have q := blk_cell p3 3
  have qf := blk_free p3 3
  simp at q
  have r0 := blk_cell p3' 0
  have t0 := blk_cell p2' 0
  have g0 := blk_free p2' 0
  have r1 := blk_cell p3' 1
  have t1 := blk_cell p2' 1
  have g1 := blk_free p2' 1
  have r2 := blk_cell p3' 2
  have t2 := blk_cell p2' 2
  have g2 := blk_free p2' 2
  have r3 := blk_cell p3' 3
  have t3 := blk_cell p2' 3
  have g3 := blk_free p2' 3
  simp at r0 t0 r1 t1 r2 t2 r3 t3
  have P2 := hide p2'
  clear p2 p3 p3' p2'
  go_wp2_with fail
  refine bodyPost_ret (results_cell_row (P := Try.prog) (d := _) rfl _ _ (w.heap.size + 1) 52 #[.int .i64 f0, .int .i64 f1, .int .i64 f2, .slice A' n' c'] (0, 0) rfl ?_ Try.underlying52 rfl rfl) rfl ?_
  · exact blk_set (blk_set (blk_set (blk_set P2.out 0 _) 1 _) 2 _) 3 _
  · have ho5 := onlySet (p := fun b => w.heap.size ≤ b ∧ b < w3.heap.size) (onlySet (p := fun b => w.heap.size ≤ b ∧ b < w3.heap.size) (onlySet (p := fun b => w.heap.size ≤ b ∧ b < w3.heap.size) (onlySet (p := fun b => w.heap.size ≤ b ∧ b < w3.heap.size) (onlySet (p := fun b => w.heap.size ≤ b ∧ b < w3.heap.size) (Only.refl _ w4) (a := ⟨w.heap.size + 1 + 1, 3, none⟩) ⟨show w.heap.size ≤ w.heap.size + 1 + 1 by omega, show w.heap.size + 1 + 1 < w3.heap.size by omega⟩ (.slice A' n' c')) (a := ⟨w.heap.size + 1, 0, none⟩) ⟨show w.heap.size ≤ w.heap.size + 1 by omega, show w.heap.size + 1 < w3.heap.size by omega⟩ (.int .i64 f0)) (a := ⟨w.heap.size + 1, 1, none⟩) ⟨show w.heap.size ≤ w.heap.size + 1 by omega, show w.heap.size + 1 < w3.heap.size by omega⟩ (.int .i64 f1)) (a := ⟨w.heap.size + 1, 2, none⟩) ⟨show w.heap.size ≤ w.heap.size + 1 by omega, show w.heap.size + 1 < w3.heap.size by omega⟩ (.int .i64 f2)) (a := ⟨w.heap.size + 1, 3, none⟩) ⟨show w.heap.size ≤ w.heap.size + 1 by omega, show w.heap.size + 1 < w3.heap.size by omega⟩ (.slice A' n' c')
    have hs5 := ho5.size
    exact ⟨A', n', c', rfl, (hO.only ho5 (fun k h1 h2 h3 => by omega)).more (by omega) hs5, (hb3.trans (hb4.mono (by omega))).trans (ho5.below (by omega) (fun k hk h3 => by omega))⟩
theorem laws_szOp (f0 f1 f2 : Int) (A : Option Addr) (n cap : Nat) (k : Int) (w : World) (h0 : 0 ≤ k) (h1 : k ≤ 1048576) (hn : (n : Int) ≤ 9223372036854775807) :
    Calls Try.prog 27 #[Opv f0 f1 f2 A n cap, .int .i64 k] w fun e w' => e = .returned (.int .i64 (szF n k)) ∧ Below w.heap.size w w' := by
  have HB := hide (show Below w.heap.size w (w.alloc (.cells #[.int .i64 f0, .int .i64 f1, .int .i64 f2, .slice A n cap] 48)) from (Below.refl _ _).alloc (Nat.le_refl _) _)
  have HS := hide (laws_szIntS A n cap k (w.alloc (.cells #[.int .i64 f0, .int .i64 f1, .int .i64 f2, .slice A n cap] 48)) h0 h1 hn)
  have hlo := @szF_lo n k
  have hcase : szF n k = -1 ∨ 0 ≤ szF n k := by
    by_cases h1 : k < (n : Int)
    · exact .inl (by rw [szF, if_pos h1])
    · exact .inr (by rw [szF, if_neg h1]; omega)
  obtain ⟨q, hq⟩ : ∃ q, szF n k = q := ⟨_, rfl⟩
  rw [hq] at hcase HS ⊢
  clear hlo hn hq h0 h1
  go_enter Try.func27, Try.ntmps27
  go_wp2_with fail
  refine HS.out.mono ?_
  rintro e w' ⟨rfl, rfl⟩
  rcases hcase with rfl | hq0
  · go_wp2
    go_ret
    exact ⟨rfl, HB.out⟩
  · go_wp2
    go_ret
    exact ⟨rfl, HB.out⟩
theorem laws_eqOp {B n cap B' n' cap' : Nat} {A A' : Option Addr} {xs : List Int} (f0 f1 f2 : Int) (w : World) (h : RI w B A n cap xs) (h' : RI w B' A' n' cap' xs) (hB : B ≤ w.heap.size) (hB' : B' ≤ w.heap.size) (hx : xs.length ≤ 1048576) :
    Calls Try.prog 33 #[Opv f0 f1 f2 A n cap, Opv f0 f1 f2 A' n' cap'] w fun e w' => e = .returned (.bool true) ∧ Below w.heap.size w w' := by
  obtain ⟨wb, hwb⟩ : ∃ wb, wb = ((w.alloc (.cells #[.int .i64 f0, .int .i64 f1, .int .i64 f2, .slice A n cap] 52)).alloc (.cells #[.int .i64 f0, .int .i64 f1, .int .i64 f2, .slice A' n' cap'] 52)) := ⟨_, rfl⟩
  have hb : Below w.heap.size w wb := hwb ▸ (((Below.refl _ _).alloc (Nat.le_refl _) _).alloc (by simp) _)
  have HE := hide (eqI_same wb (h.below (hb.mono hB)) (h'.below (hb.mono hB')) hx)
  have HB := hide hb
  have HW := hide hwb
  clear h h' hx hb hwb
  go_enter Try.func33, Try.ntmps33
  go_wp2_with fail
  rw [← HW.out]
  refine HE.out.mono ?_
  rintro e w2 ⟨rfl, hb2⟩
  go_wp2_with fail
  go_ret
  exact ⟨rfl, HB.out.trans (hb2.mono HB.out.size)⟩
theorem laws_markOp {lo hi n cap : Nat} {A : Option Addr} {xs : List Int} (f0 f1 f2 : Int) (k : Int) (w : World) (h : OwI w lo hi (.slice A n cap) xs) (hn : xs.length ≤ 1048576) (hk0 : 0 ≤ k) (hk1 : k ≤ 1000000000000) :
    Calls Try.prog 34 #[Opv f0 f1 f2 A n cap, .int .i64 k] w fun e w' => e = .returned (.int .i64 (k + xs.length)) ∧ OwI w' lo hi (.slice A n cap) (marks k xs.length) ∧ Only (fun b => (Value.slice A n cap).ownBlock = some b) w w' := by
  have hb : Below w.heap.size w (w.alloc (.cells #[.int .i64 f0, .int .i64 f1, .int .i64 f2, .slice A n cap] 52)) := (Below.refl _ _).alloc (Nat.le_refl _) _
  have HM := hide (laws_markIntS k (w.alloc (.cells #[.int .i64 f0, .int .i64 f1, .int .i64 f2, .slice A n cap] 52)) (h.below hb) hn hk0 hk1)
  have HB := hide hb
  clear h hb hn hk0 hk1
  go_enter Try.func34, Try.ntmps34
  go_wp2_with fail
  refine HM.out.mono ?_
  rintro e w2 ⟨rfl, ho, hm⟩
  have HO := hide ho
  have H2 := hide hm
  clear ho hm
  go_wp2_with fail
  go_ret
  exact ⟨rfl, HO.out, (Only.of_below HB.out).trans H2.out⟩
end Go.Proofs.Ytehfglfbnjdcoaa
