/-
  The contracts of the functions on one operation, and of the two that compare.
-/
import Derived.Test.YtehfglfbnjdcoaaProg
import Derived.Test.YtehfglfbnjdcoaaStru
import Derived.Test.YtehfglfbnjdcoaaVec2
import Derived.Test.YtehfglfbnjdcoaaPlainM
import Derived.WalkKit
import Derived.Deep.RegionHeld3
namespace Go.Proofs.Ytehfglfbnjdcoaa
open Go.RowKit
set_option maxRecDepth 100000

/-- how many parameters an operation has -/
def opSize (k i o : Int) : Int := if 1 ≤ i ∧ i ≤ 6 ∧ 1 ≤ o ∧ o ≤ 6 then (if k = 1 ∨ k = 5 then i * o else if k = 2 then i else if k = 4 then 1 else 0) else 0
def okO (k i o : Int) (xs : List Int) : Bool := decide (1 ≤ k ∧ k ≤ 5 ∧ 1 ≤ i ∧ i ≤ 6 ∧ 1 ≤ o ∧ o ≤ 6 ∧ (k = 1 ∨ i = o) ∧ (xs.length : Int) = opSize k i o) && xs.all fxOk
def opCost (k i o : Int) (xs : List Int) : Int := if okO k i o xs = true then (if k = 1 ∨ k = 5 then i * o else if k = 4 then i else 0) else 0
theorem opSize_bd (k i o : Int) : 0 ≤ opSize k i o ∧ opSize k i o ≤ 36 := by
  rw [opSize]; split
  · rename_i h
    have := mul36 h.1 h.2.1 h.2.2.1 h.2.2.2
    split <;> (try split) <;> (try split) <;> omega
  · omega
theorem spec_OpSize (k i o : Int) (A : Option Addr) (n cap : Nat) (w : World) :
    Calls Try.prog 124 #[Opv k i o A n cap] w fun e w' => e = .returned (.int .i64 (opSize k i o)) ∧ Below w.heap.size w w' := by
  have hb : Below w.heap.size w (w.alloc (.cells #[.int .i64 k, .int .i64 i, .int .i64 o, .slice A n cap] 52)) := (Below.refl _ _).alloc (Nat.le_refl _) _
  by_cases c0 : 1 ≤ i ∧ i ≤ 6
  case neg =>
    go_enter Try.func124, Try.ntmps124
    go_wp2_with fail
    refine (spec_l1In_no _ _ _ _ (by omega)).mono ?_
    rintro e w' ⟨rfl, rfl⟩
    go_wp2_with fail
    go_ret
    exact ⟨rI (by rw [opSize, if_neg (by omega)]), hb⟩
  by_cases c1 : 1 ≤ o ∧ o ≤ 6
  case neg =>
    go_enter Try.func124, Try.ntmps124
    go_wp2_with fail
    refine (spec_l1In_yes _ _ _ _ c0.1 c0.2).mono ?_
    rintro e w' ⟨rfl, rfl⟩
    go_wp2_with fail
    refine (spec_l1In_no _ _ _ _ (by omega)).mono ?_
    rintro e w' ⟨rfl, rfl⟩
    go_wp2_with fail
    go_ret
    exact ⟨rI (by rw [opSize, if_neg (by omega)]), hb⟩
  have hr : 1 ≤ i ∧ i ≤ 6 ∧ 1 ≤ o ∧ o ≤ 6 := by omega
  obtain ⟨m, hm⟩ : ∃ m, i * o = m := ⟨_, rfl⟩
  have hm1 := mul36 hr.1 hr.2.1 hr.2.2.1 hr.2.2.2
  rw [hm] at hm1
  have HS := hide (show opSize k i o = (if k = 1 ∨ k = 5 then m else if k = 2 then i else if k = 4 then 1 else 0) from by rw [opSize, if_pos hr, hm])
  by_cases k0 : k = 1
  · subst k0
    go_enter Try.func124, Try.ntmps124
    go_wp2_with fail
    refine (spec_l1In_yes _ _ _ _ c0.1 c0.2).mono ?_
    rintro e w' ⟨rfl, rfl⟩
    go_wp2_with fail
    refine (spec_l1In_yes _ _ _ _ c1.1 c1.2).mono ?_
    rintro e w' ⟨rfl, rfl⟩
    go_wp2_with fail
    go_ret
    exact ⟨rI (by rw [HS.out]; simp), hb⟩
  by_cases k1 : k = 5
  · subst k1
    go_enter Try.func124, Try.ntmps124
    go_wp2_with fail
    refine (spec_l1In_yes _ _ _ _ c0.1 c0.2).mono ?_
    rintro e w' ⟨rfl, rfl⟩
    go_wp2_with fail
    refine (spec_l1In_yes _ _ _ _ c1.1 c1.2).mono ?_
    rintro e w' ⟨rfl, rfl⟩
    go_wp2_with fail
    go_ret
    exact ⟨rI (by rw [HS.out]; simp), hb⟩
  by_cases k2 : k = 2
  · subst k2
    go_enter Try.func124, Try.ntmps124
    go_wp2_with fail
    refine (spec_l1In_yes _ _ _ _ c0.1 c0.2).mono ?_
    rintro e w' ⟨rfl, rfl⟩
    go_wp2_with fail
    refine (spec_l1In_yes _ _ _ _ c1.1 c1.2).mono ?_
    rintro e w' ⟨rfl, rfl⟩
    go_wp2_with fail
    go_ret
    exact ⟨rI (by rw [HS.out]; simp), hb⟩
  by_cases k3 : k = 4
  · subst k3
    go_enter Try.func124, Try.ntmps124
    go_wp2_with fail
    refine (spec_l1In_yes _ _ _ _ c0.1 c0.2).mono ?_
    rintro e w' ⟨rfl, rfl⟩
    go_wp2_with fail
    refine (spec_l1In_yes _ _ _ _ c1.1 c1.2).mono ?_
    rintro e w' ⟨rfl, rfl⟩
    go_wp2_with fail
    go_ret
    exact ⟨rI (by rw [HS.out]; simp), hb⟩
  have e0 : (k == 1) = false := by simpa using k0
  have e1 : (k == 5) = false := by simpa using k1
  have e2 : (k == 2) = false := by simpa using k2
  have e3 : (k == 4) = false := by simpa using k3
  have HS' := hide (show opSize k i o = 0 from by rw [HS.out, if_neg (by omega), if_neg (by omega), if_neg (by omega)])
  clear k0 k1 k2 k3
  · go_enter Try.func124, Try.ntmps124
    go_wp2_with fail
    refine (spec_l1In_yes _ _ _ _ c0.1 c0.2).mono ?_
    rintro e w' ⟨rfl, rfl⟩
    go_wp2_with fail
    refine (spec_l1In_yes _ _ _ _ c1.1 c1.2).mono ?_
    rintro e w' ⟨rfl, rfl⟩
    go_wp2_with fail
    go_ret
    exact ⟨rI (by rw [HS'.out]), hb⟩
theorem impl_OpSize (k i o : Int) (A : Option Addr) (n cap : Nat) (w : World) :
    Calls Try.prog 63 #[Opv k i o A n cap] w fun e w' => e = .returned (.int .i64 (opSize k i o)) ∧ Below w.heap.size w w' := by
  have hb : Below w.heap.size w (w.alloc (.cells #[.int .i64 k, .int .i64 i, .int .i64 o, .slice A n cap] 52)) := (Below.refl _ _).alloc (Nat.le_refl _) _
  by_cases c0 : i < 1
  · go_enter Try.func63, Try.ntmps63
    go_wp2_with fail
    go_ret
    exact ⟨rI (by rw [opSize, if_neg (by omega)]), hb⟩
  by_cases c1 : 6 < i
  · go_enter Try.func63, Try.ntmps63
    go_wp2_with fail
    go_ret
    exact ⟨rI (by rw [opSize, if_neg (by omega)]), hb⟩
  by_cases c2 : o < 1
  · go_enter Try.func63, Try.ntmps63
    go_wp2_with fail
    go_ret
    exact ⟨rI (by rw [opSize, if_neg (by omega)]), hb⟩
  by_cases c3 : 6 < o
  · go_enter Try.func63, Try.ntmps63
    go_wp2_with fail
    go_ret
    exact ⟨rI (by rw [opSize, if_neg (by omega)]), hb⟩
  have hr : 1 ≤ i ∧ i ≤ 6 ∧ 1 ≤ o ∧ o ≤ 6 := by omega
  obtain ⟨m, hm⟩ : ∃ m, i * o = m := ⟨_, rfl⟩
  have hm1 := mul36 hr.1 hr.2.1 hr.2.2.1 hr.2.2.2
  rw [hm] at hm1
  have HS := hide (show opSize k i o = (if k = 1 ∨ k = 5 then m else if k = 2 then i else if k = 4 then 1 else 0) from by rw [opSize, if_pos hr, hm])
  by_cases k0 : k = 1
  · subst k0
    go_enter Try.func63, Try.ntmps63
    go_wp2_with fail
    go_ret
    exact ⟨rI (by rw [HS.out]; simp), hb⟩
  by_cases k1 : k = 5
  · subst k1
    go_enter Try.func63, Try.ntmps63
    go_wp2_with fail
    go_ret
    exact ⟨rI (by rw [HS.out]; simp), hb⟩
  by_cases k2 : k = 2
  · subst k2
    go_enter Try.func63, Try.ntmps63
    go_wp2_with fail
    go_ret
    exact ⟨rI (by rw [HS.out]; simp), hb⟩
  by_cases k3 : k = 4
  · subst k3
    go_enter Try.func63, Try.ntmps63
    go_wp2_with fail
    go_ret
    exact ⟨rI (by rw [HS.out]; simp), hb⟩
  have e0 : (k == 1) = false := by simpa using k0
  have e1 : (k == 5) = false := by simpa using k1
  have e2 : (k == 2) = false := by simpa using k2
  have e3 : (k == 4) = false := by simpa using k3
  have HS' := hide (show opSize k i o = 0 from by rw [HS.out, if_neg (by omega), if_neg (by omega), if_neg (by omega)])
  clear k0 k1 k2 k3
  · go_enter Try.func63, Try.ntmps63
    go_wp2_with fail
    go_ret
    exact ⟨rI (by rw [HS'.out]), hb⟩
end Go.Proofs.Ytehfglfbnjdcoaa
