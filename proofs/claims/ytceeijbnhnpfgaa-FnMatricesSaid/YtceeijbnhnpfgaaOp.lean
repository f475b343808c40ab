/-
  The contracts of the functions on one operation, and of the two that compare.
-/
import Derived.Test.YtceeijbnhnpfgaaProg
import Derived.Test.YtceeijbnhnpfgaaStru
import Derived.Test.YtceeijbnhnpfgaaVec2
import Derived.Test.YtceeijbnhnpfgaaPlainM
import Derived.WalkKit
import Derived.Deep.RegionHeld3
namespace Go.Proofs.Ytceeijbnhnpfgaa
open Go.RowKit

/-- how many parameters an operation has -/
def opSize (k i o : Int) : Int := if 1 ≤ i ∧ i ≤ 6 ∧ 1 ≤ o ∧ o ≤ 6 then (if k = 1 ∨ k = 5 then i * o else if k = 2 then i else if k = 4 then 1 else 0) else 0
def okO (k i o : Int) (xs : List Int) : Bool := decide (1 ≤ k ∧ k ≤ 5 ∧ 1 ≤ i ∧ i ≤ 6 ∧ 1 ≤ o ∧ o ≤ 6 ∧ (k = 1 ∨ i = o) ∧ (xs.length : Int) = opSize k i o) && xs.all fxOk
def opCost (k i o : Int) (xs : List Int) : Int := if okO k i o xs = true then (if k = 1 ∨ k = 5 then i * o else if k = 4 then i else 0) else 0
theorem opSize_bd (k i o : Int) : 0 ≤ opSize k i o ∧ opSize k i o ≤ 36 := by
  rw [opSize]; split
  · rename_i h
    have := mul36 h.1 h.2.1 h.2.2.1 h.2.2.2
    split <;> (try split) <;> (try split) <;> omega
  · omega
theorem spec_SameMat {B n cap B' n' cap' : Nat} {A A' : Option Addr} {xs ys : List Int} (f0 f1 g0 g1 : Int) (w : World) (h : RI w B A n cap xs) (h' : RI w B' A' n' cap' ys) (hB : B ≤ w.heap.size) (hB' : B' ≤ w.heap.size) (hn : n ≤ 1048576) (hn' : n' ≤ 1048576) :
    Calls Try.prog 22 #[Matv f0 f1 A n cap, Matv g0 g1 A' n' cap'] w fun e w' => e = .returned (.bool (decide (f0 = g0) && decide (f1 = g1) && decide (xs = ys))) ∧ Below w.heap.size w w' := by
  obtain ⟨wb, hwb⟩ : ∃ wb, wb = ((w.alloc (.cells #[.int .i64 f0, .int .i64 f1, .slice A n cap] 38)).alloc (.cells #[.int .i64 g0, .int .i64 g1, .slice A' n' cap'] 38)) := ⟨_, rfl⟩
  have hb : Below w.heap.size w wb := hwb ▸ (((Below.refl _ _).alloc (Nat.le_refl _) _).alloc (by simp) _)
  have HE := hide (spec_SameVec wb (h.below (hb.mono hB)) (h'.below (hb.mono hB')) hn hn')
  have HB := hide hb
  have HW := hide hwb
  clear h h' hn hn' hb
  by_cases c0 : f0 = g0
  case neg =>
    have d0 : (f0 == g0) = false := by simpa using c0
    have C := hide c0
    clear c0
    subst hwb
    go_enter Try.func22, Try.ntmps22
    go_wp2_with fail
    go_ret
    exact ⟨rB (by simp [C.out]), HB.out⟩
  subst c0
  by_cases c1 : f1 = g1
  case neg =>
    have d1 : (f1 == g1) = false := by simpa using c1
    have C := hide c1
    clear c1
    subst hwb
    go_enter Try.func22, Try.ntmps22
    go_wp2_with fail
    go_ret
    exact ⟨rB (by simp [C.out]), HB.out⟩
  subst c1
  clear hwb
  go_enter Try.func22, Try.ntmps22
  go_wp2_with fail
  rw [← HW.out]
  refine HE.out.mono ?_
  rintro e w2 hq
  obtain ⟨rfl, hb2⟩ := hq.below
  clear hq
  go_wp2_with fail
  go_ret
  exact ⟨rB (by simp), HB.out.trans (hb2.mono HB.out.size)⟩
end Go.Proofs.Ytceeijbnhnpfgaa
