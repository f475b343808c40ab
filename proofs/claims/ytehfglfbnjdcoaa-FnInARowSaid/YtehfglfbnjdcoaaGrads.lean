/-
  The laws' own functions over Grads.
-/
import Derived.Test.YtehfglfbnjdcoaaProg
import Derived.Test.YtehfglfbnjdcoaaRowS
import Derived.Test.YtehfglfbnjdcoaaMarkR
import Derived.WalkKit
namespace Go.Proofs.Ytehfglfbnjdcoaa
open Go.RowKit
set_option maxRecDepth 100000

/-- a value of the struct -/
abbrev Grv (A : Option Addr) (n c : Nat) (l : Int) (s : Bool) : Value := .agg #[.slice A n c, .int .i64 l, .bool s]
theorem laws_toGrads {B n c : Nat} {A : Option Addr} {ds : List (List Int)} (l : Int) (s : Bool) (w : World) (h : RL 1 w B A n c (ds.flatMap rowF)) (hB : B ≤ w.heap.size) (hn : n ≤ 1048576) (hsm : SmR ds) :
    Calls Try.prog 48 #[Grv A n c l s] w fun e w' => ∃ A' c', e = .returned (Grv A' n c' l s) ∧ OwRows w' w.heap.size w'.heap.size (.slice A' n c') n (ds.flatMap rowF) ∧ Below w.heap.size w w' := by
  have HX := hide hsm
  clear hsm
  go_enter Try.func48, Try.ntmps48
  go_wp2_with fail
  obtain ⟨w1, hw1⟩ : ∃ w1, w1 = (w.alloc (.cells #[.slice A n c, .int .i64 l, .bool s] 72)) := ⟨_, rfl⟩
  obtain ⟨w2, hw2⟩ : ∃ w2, w2 = (w1.alloc (.cells #[.slice none 0 0, .int .i64 0, .bool false] 32)) := ⟨_, rfl⟩
  obtain ⟨w3, hw3⟩ : ∃ w3, w3 = (w2.alloc (.cells #[.slice none 0 0, .int .i64 0, .bool false] 32)) := ⟨_, rfl⟩
  have s1 : w1.heap.size = w.heap.size + 1 := by rw [hw1]; simp
  have s2 : w2.heap.size = w.heap.size + 1 + 1 := by rw [hw2]; simp [s1]
  have s3 : w3.heap.size = w.heap.size + 1 + 1 + 1 := by rw [hw3]; simp [s2]
  have hb1 : Below w.heap.size w w1 := hw1 ▸ (Below.refl _ _).alloc (Nat.le_refl _) _
  have hb2 : Below w.heap.size w w2 := hw2 ▸ hb1.alloc (by omega) _
  have hb3 : Below w.heap.size w w3 := hw3 ▸ hb2.alloc (by omega) _
  have p1 : w3.heap[w.heap.size]? = some (.cells #[.slice A n c, .int .i64 l, .bool s] 72 (0, 0)) := by
    rw [hw3, Below.heap_alloc _ _ _ (by omega), hw2, Below.heap_alloc _ _ _ (by omega), hw1]; exact heap_alloc_new _ _
  have p2 : w3.heap[w.heap.size + 1]? = some (.cells #[.slice none 0 0, .int .i64 0, .bool false] 32 (0, 0)) := by
    rw [hw3, Below.heap_alloc _ _ _ (by omega), ← s1, hw2]; exact heap_alloc_new _ _
  have p3 : w3.heap[w.heap.size + 1 + 1]? = some (.cells #[.slice none 0 0, .int .i64 0, .bool false] 32 (0, 0)) := by
    rw [hw3, ← s2]; exact heap_alloc_new _ _
  rw [← hw1, ← hw2, ← hw3]
  clear hw1 hw2 hw3 hb1 hb2
  refine (laws_toRowS w3 (h.below (hb3.mono hB)) (by omega) hn HX.out).mono ?_
  rintro e w4 ⟨A', c', rfl, hO, hb4⟩
  have s4 := hb4.size
  replace p1 := (hb4.block _ (by omega)).trans p1
  replace p2 := (hb4.block _ (by omega)).trans p2
  replace p3 := (hb4.block _ (by omega)).trans p3
  clear h s1 s2
  have y1 := blk_cell p1 1
  have y2 := blk_cell p1 2
  have q0 := blk_cell p3 0
  have q1 := blk_cell p3 1
  have q2 := blk_cell p3 2
  have z0 := blk_free p3 0
  have z1 := blk_free p3 1
  have z2 := blk_free p3 2
  have t0 := blk_cell p2 0
  have t1 := blk_cell p2 1
  have t2 := blk_cell p2 2
  have g0 := blk_free p2 0
  have g1 := blk_free p2 1
  have g2 := blk_free p2 2
  simp at y1 y2 q0 q1 q2 t0 t1 t2
  have P2 := hide p2
  clear p1 p2 p3
  go_wp2_with fail
  refine bodyPost_ret (results_cell_row (P := Try.prog) (d := _) rfl _ _ (w.heap.size + 1) 32 #[.slice A' n c', .int .i64 l, .bool s] (0, 0) rfl ?_ Try.underlying32 rfl rfl) rfl ?_
  · exact blk_set (blk_set (blk_set (blk_far (blk_far (blk_far P2.out (by omega) _) (by omega) _) (by omega) _) 0 _) 1 _) 2 _
  · have ho5 := onlySet (p := fun b => w.heap.size ≤ b ∧ b < w3.heap.size) (onlySet (p := fun b => w.heap.size ≤ b ∧ b < w3.heap.size) (onlySet (p := fun b => w.heap.size ≤ b ∧ b < w3.heap.size) (onlySet (p := fun b => w.heap.size ≤ b ∧ b < w3.heap.size) (onlySet (p := fun b => w.heap.size ≤ b ∧ b < w3.heap.size) (onlySet (p := fun b => w.heap.size ≤ b ∧ b < w3.heap.size) (Only.refl _ w4) (a := ⟨w.heap.size + 1 + 1, 0, none⟩) ⟨show w.heap.size ≤ w.heap.size + 1 + 1 by omega, show w.heap.size + 1 + 1 < w3.heap.size by omega⟩ (.slice A' n c')) (a := ⟨w.heap.size + 1 + 1, 1, none⟩) ⟨show w.heap.size ≤ w.heap.size + 1 + 1 by omega, show w.heap.size + 1 + 1 < w3.heap.size by omega⟩ (.int .i64 l)) (a := ⟨w.heap.size + 1 + 1, 2, none⟩) ⟨show w.heap.size ≤ w.heap.size + 1 + 1 by omega, show w.heap.size + 1 + 1 < w3.heap.size by omega⟩ (.bool s)) (a := ⟨w.heap.size + 1, 0, none⟩) ⟨show w.heap.size ≤ w.heap.size + 1 by omega, show w.heap.size + 1 < w3.heap.size by omega⟩ (.slice A' n c')) (a := ⟨w.heap.size + 1, 1, none⟩) ⟨show w.heap.size ≤ w.heap.size + 1 by omega, show w.heap.size + 1 < w3.heap.size by omega⟩ (.int .i64 l)) (a := ⟨w.heap.size + 1, 2, none⟩) ⟨show w.heap.size ≤ w.heap.size + 1 by omega, show w.heap.size + 1 < w3.heap.size by omega⟩ (.bool s)
    have hs5 := ho5.size
    exact ⟨A', c', rfl, (hO.only ho5 (fun k h1 h2 h3 => by have h4 : w.heap.size ≤ k ∧ k < w3.heap.size := h3; omega)).more (by omega) hs5, (hb3.trans (hb4.mono (by omega))).trans (ho5.below (by omega) (fun k hk h3 => by have h4 : w.heap.size ≤ k ∧ k < w3.heap.size := h3; omega))⟩
theorem laws_szGrads {B n c : Nat} {A : Option Addr} {ds : List (List Int)} (l : Int) (s : Bool) (k0 : Int) (w : World) (h : RL 1 w B A n c (ds.flatMap rowF)) (hB : B ≤ w.heap.size) (h0 : 0 ≤ k0) (h1 : k0 ≤ 1048576) (hn : (n : Int) ≤ 9223372036854775807)
    (hsm : ∀ (j : Nat) (l : Nat), (ds.map fun d => d.length)[j]? = some l → (l : Int) ≤ 9223372036854775807) :
    Calls Try.prog 46 #[Grv A n c l s, .int .i64 k0] w fun e w' => e = .returned (.int .i64 (szL n (ds.map fun d => d.length) k0)) ∧ Below w.heap.size w w' := by
  have hb : Below w.heap.size w (w.alloc (.cells #[.slice A n c, .int .i64 l, .bool s] 72)) := (Below.refl _ _).alloc (Nat.le_refl _) _
  have HS := hide (laws_szRowS k0 (w.alloc (.cells #[.slice A n c, .int .i64 l, .bool s] 72)) (h.below (hb.mono hB)) (by have := hb.size; omega) h0 h1 hn hsm)
  have HB := hide hb
  have hcase := szL_case n (ds.map fun d => d.length) k0
  obtain ⟨q, hq⟩ : ∃ q, szL n (ds.map fun d => d.length) k0 = q := ⟨_, rfl⟩
  rw [hq] at hcase HS ⊢
  have hcase : q = -1 ∨ 0 ≤ q := by rcases hcase with h | h; exact .inl h; exact .inr h.1
  clear hn hq h0 h1 hsm h hb
  go_enter Try.func46, Try.ntmps46
  go_wp2_with fail
  refine HS.out.mono ?_
  rintro e w' ⟨rfl, hb⟩
  rcases hcase with rfl | hq0
  · go_wp2
    go_ret
    exact ⟨rfl, HB.out.trans (hb.mono HB.out.size)⟩
  · go_wp2
    go_ret
    exact ⟨rfl, HB.out.trans (hb.mono HB.out.size)⟩
theorem laws_eqGrads {B n c B' n' c' : Nat} {A A' : Option Addr} {ds : List (List Int)} (l : Int) (s : Bool) (w : World) (h : RL 1 w B A n c (ds.flatMap rowF)) (h' : RL 1 w B' A' n' c' (ds.flatMap rowF)) (hB : B ≤ w.heap.size) (hB' : B' ≤ w.heap.size) (hn : n ≤ 1048576) (hsm : SmR ds) :
    Calls Try.prog 20 #[Grv A n c l s, Grv A' n' c' l s] w fun e w' => e = .returned (.bool true) ∧ Below w.heap.size w w' := by
  obtain ⟨wb, hwb⟩ : ∃ wb, wb = ((w.alloc (.cells #[.slice A n c, .int .i64 l, .bool s] 32)).alloc (.cells #[.slice A' n' c', .int .i64 l, .bool s] 32)) := ⟨_, rfl⟩
  have hb : Below w.heap.size w wb := hwb ▸ (((Below.refl _ _).alloc (Nat.le_refl _) _).alloc (by simp) _)
  have x1 : wb.cell? ⟨w.heap.size, 1, none⟩ = some (.int .i64 l) := by rw [hwb]; simp
  have x2 : wb.cell? ⟨w.heap.size, 2, none⟩ = some (.bool s) := by rw [hwb]; simp
  have y1 : wb.cell? ⟨w.heap.size + 1, 1, none⟩ = some (.int .i64 l) := by rw [hwb]; simp
  have y2 : wb.cell? ⟨w.heap.size + 1, 2, none⟩ = some (.bool s) := by rw [hwb]; simp
  have HE := hide (laws_eqRowS wb (h.below (hb.mono hB)) (h'.below (hb.mono hB')) (by have := hb.size; omega) (by have := hb.size; omega) hn hsm)
  have HB := hide hb
  have HW := hide hwb
  clear h h' hn hsm hb hwb
  cases s
  all_goals
    go_enter Try.func20, Try.ntmps20
    go_wp2_with fail
    rw [← HW.out]
    refine HE.out.mono ?_
    rintro e w2 ⟨rfl, hb2⟩
    replace x1 := cellB hb2 x1
    replace x2 := cellB hb2 x2
    replace y1 := cellB hb2 y1
    replace y2 := cellB hb2 y2
    go_wp2_with fail
    go_ret
    exact ⟨rfl, HB.out.trans (hb2.mono HB.out.size)⟩
theorem laws_markGrads {lo hi n c : Nat} {A : Option Addr} {ds : List (List Int)} (l : Int) (s : Bool) (k0 : Int) (w : World) (h : OwRows w lo hi (.slice A n c) n (ds.flatMap rowF)) (hn : n ≤ 1048576) (hsm : SmR ds) (hk0 : 0 ≤ k0) (hk1 : k0 + (mkN (ds.flatMap rowF) : Int) ≤ 1000000000000) :
    Calls Try.prog 25 #[Grv A n c l s, .int .i64 k0] w fun e w' => e = .returned (.int .i64 (k0 + (mkN (ds.flatMap rowF) : Int))) ∧ OwRows w' lo hi (.slice A n c) n (mkF k0 (ds.flatMap rowF)) ∧ Only (fun b => lo ≤ b ∧ b < hi) w w' := by
  have hb : Below w.heap.size w (w.alloc (.cells #[.slice A n c, .int .i64 l, .bool s] 32)) := (Below.refl _ _).alloc (Nat.le_refl _) _
  have HM := hide (laws_markRowS k0 (w.alloc (.cells #[.slice A n c, .int .i64 l, .bool s] 32)) (h.below hb) hn hsm hk0 hk1)
  have HB := hide hb
  obtain ⟨q, hq⟩ : ∃ q : Int, k0 + (mkN (ds.flatMap rowF) : Int) = q := ⟨_, rfl⟩
  rw [hq] at HM ⊢
  clear h hb hn hk0 hk1 hsm hq
  go_enter Try.func25, Try.ntmps25
  go_wp2_with fail
  refine HM.out.mono ?_
  rintro e w2 ⟨rfl, ho, hm⟩
  have HO := hide ho
  have H2 := hide hm
  clear ho hm
  go_wp2_with fail
  go_ret
  exact ⟨rfl, HO.out, (Only.of_below HB.out).trans H2.out⟩
theorem laws_heldGrads {lo hi n c : Nat} {A : Option Addr} {ds : List (List Int)} (l : Int) (s : Bool) (k0 : Int) (w : World) (h : OwRows w lo hi (.slice A n c) n (mkF k0 (ds.flatMap rowF))) (hn : n ≤ 1048576) (hsm : SmR ds) (hk0 : 0 ≤ k0) (hk1 : k0 + (mkN (ds.flatMap rowF) : Int) ≤ 1000000000000) :
    Calls Try.prog 26 #[Grv A n c l s, .int .i64 k0] w fun e w' => e = .returned (.int .i64 (k0 + (mkN (ds.flatMap rowF) : Int))) ∧ Below w.heap.size w w' := by
  have hb : Below w.heap.size w (w.alloc (.cells #[.slice A n c, .int .i64 l, .bool s] 32)) := (Below.refl _ _).alloc (Nat.le_refl _) _
  have HM := hide (laws_heldRowS k0 (w.alloc (.cells #[.slice A n c, .int .i64 l, .bool s] 32)) (h.below hb) hn hsm hk0 hk1)
  have HB := hide hb
  obtain ⟨q, hq⟩ : ∃ q : Int, k0 + (mkN (ds.flatMap rowF) : Int) = q := ⟨_, rfl⟩
  have hq0 : 0 ≤ q := by omega
  rw [hq] at HM ⊢
  clear h hb hn hk0 hk1 hsm hq
  go_enter Try.func26, Try.ntmps26
  go_wp2_with fail
  refine HM.out.mono ?_
  rintro e w2 ⟨rfl, hb2⟩
  go_wp2
  go_ret
  exact ⟨rfl, HB.out.trans (hb2.mono HB.out.size)⟩
end Go.Proofs.Ytehfglfbnjdcoaa
