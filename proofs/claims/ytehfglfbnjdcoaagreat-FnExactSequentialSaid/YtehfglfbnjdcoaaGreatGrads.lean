/-
  The laws' own functions over Grads.
-/
import Derived.Test.YtehfglfbnjdcoaaGreatProg
import Derived.Test.YtehfglfbnjdcoaaGreatRowS
import Derived.Test.YtehfglfbnjdcoaaGreatMarkR
import Derived.WalkKit
namespace Go.Proofs.YtehfglfbnjdcoaaGreat
open Go.RowKit
set_option maxRecDepth 100000

/-- a value of the struct -/
abbrev Grv (A : Option Addr) (n c : Nat) (l : Int) (s : Bool) : Value := .agg #[.slice A n c, .int .i64 l, .bool s]
theorem laws_eqGrads {B n c B' n' c' : Nat} {A A' : Option Addr} {ds : List (List Int)} (l : Int) (s : Bool) (w : World) (h : RL 1 w B A n c (ds.flatMap rowF)) (h' : RL 1 w B' A' n' c' (ds.flatMap rowF)) (hB : B ≤ w.heap.size) (hB' : B' ≤ w.heap.size) (hn : n ≤ 1048576) (hsm : SmR ds) :
    Calls Tryz.prog 10 #[Grv A n c l s, Grv A' n' c' l s] w fun e w' => e = .returned (.bool true) ∧ Below w.heap.size w w' := by
  obtain ⟨wb, hwb⟩ : ∃ wb, wb = ((w.alloc (.cells #[.slice A n c, .int .i64 l, .bool s] 30)).alloc (.cells #[.slice A' n' c', .int .i64 l, .bool s] 30)) := ⟨_, rfl⟩
  have hb : Below w.heap.size w wb := hwb ▸ (((Below.refl _ _).alloc (Nat.le_refl _) _).alloc (by simp) _)
  have x1 : wb.cell? ⟨w.heap.size, 1, none⟩ = some (.int .i64 l) := by rw [hwb]; simp
  have x2 : wb.cell? ⟨w.heap.size, 2, none⟩ = some (.bool s) := by rw [hwb]; simp
  have y1 : wb.cell? ⟨w.heap.size + 1, 1, none⟩ = some (.int .i64 l) := by rw [hwb]; simp
  have y2 : wb.cell? ⟨w.heap.size + 1, 2, none⟩ = some (.bool s) := by rw [hwb]; simp
  have HE := hide (laws_eqRowS wb (h.below (hb.mono hB)) (h'.below (hb.mono hB')) (by have := hb.size; omega) (by have := hb.size; omega) hn hsm)
  have HB := hide hb
  have HW := hide hwb
  clear h h' hn hsm hb hwb
  cases s
  all_goals
    go_enter Tryz.func10, Tryz.ntmps10
    go_wp2_with fail
    rw [← HW.out]
    refine HE.out.mono ?_
    rintro e w2 ⟨rfl, hb2⟩
    replace x1 := cellB hb2 x1
    replace x2 := cellB hb2 x2
    replace y1 := cellB hb2 y1
    replace y2 := cellB hb2 y2
    go_wp2_with fail
    go_ret
    exact ⟨rfl, HB.out.trans (hb2.mono HB.out.size)⟩
theorem laws_markGrads {lo hi n c : Nat} {A : Option Addr} {ds : List (List Int)} (l : Int) (s : Bool) (k0 : Int) (w : World) (h : OwRows w lo hi (.slice A n c) n (ds.flatMap rowF)) (hn : n ≤ 1048576) (hsm : SmR ds) (hk0 : 0 ≤ k0) (hk1 : k0 + (mkN (ds.flatMap rowF) : Int) ≤ 1000000000000) :
    Calls Tryz.prog 15 #[Grv A n c l s, .int .i64 k0] w fun e w' => e = .returned (.int .i64 (k0 + (mkN (ds.flatMap rowF) : Int))) ∧ OwRows w' lo hi (.slice A n c) n (mkF k0 (ds.flatMap rowF)) ∧ Only (fun b => lo ≤ b ∧ b < hi) w w' := by
  have hb : Below w.heap.size w (w.alloc (.cells #[.slice A n c, .int .i64 l, .bool s] 30)) := (Below.refl _ _).alloc (Nat.le_refl _) _
  have HM := hide (laws_markRowS k0 (w.alloc (.cells #[.slice A n c, .int .i64 l, .bool s] 30)) (h.below hb) hn hsm hk0 hk1)
  have HB := hide hb
  obtain ⟨q, hq⟩ : ∃ q : Int, k0 + (mkN (ds.flatMap rowF) : Int) = q := ⟨_, rfl⟩
  rw [hq] at HM ⊢
  clear h hb hn hk0 hk1 hsm hq
  go_enter Tryz.func15, Tryz.ntmps15
  go_wp2_with fail
  refine HM.out.mono ?_
  rintro e w2 ⟨rfl, ho, hm⟩
  have HO := hide ho
  have H2 := hide hm
  clear ho hm
  go_wp2_with fail
  go_ret
  exact ⟨rfl, HO.out, (Only.of_below HB.out).trans H2.out⟩
theorem laws_heldGrads {lo hi n c : Nat} {A : Option Addr} {ds : List (List Int)} (l : Int) (s : Bool) (k0 : Int) (w : World) (h : OwRows w lo hi (.slice A n c) n (mkF k0 (ds.flatMap rowF))) (hn : n ≤ 1048576) (hsm : SmR ds) (hk0 : 0 ≤ k0) (hk1 : k0 + (mkN (ds.flatMap rowF) : Int) ≤ 1000000000000) :
    Calls Tryz.prog 16 #[Grv A n c l s, .int .i64 k0] w fun e w' => e = .returned (.int .i64 (k0 + (mkN (ds.flatMap rowF) : Int))) ∧ Below w.heap.size w w' := by
  have hb : Below w.heap.size w (w.alloc (.cells #[.slice A n c, .int .i64 l, .bool s] 30)) := (Below.refl _ _).alloc (Nat.le_refl _) _
  have HM := hide (laws_heldRowS k0 (w.alloc (.cells #[.slice A n c, .int .i64 l, .bool s] 30)) (h.below hb) hn hsm hk0 hk1)
  have HB := hide hb
  obtain ⟨q, hq⟩ : ∃ q : Int, k0 + (mkN (ds.flatMap rowF) : Int) = q := ⟨_, rfl⟩
  have hq0 : 0 ≤ q := by omega
  rw [hq] at HM ⊢
  clear h hb hn hk0 hk1 hsm hq
  go_enter Tryz.func16, Tryz.ntmps16
  go_wp2_with fail
  refine HM.out.mono ?_
  rintro e w2 ⟨rfl, hb2⟩
  go_wp2
  go_ret
  exact ⟨rfl, HB.out.trans (hb2.mono HB.out.size)⟩
end Go.Proofs.YtehfglfbnjdcoaaGreat
