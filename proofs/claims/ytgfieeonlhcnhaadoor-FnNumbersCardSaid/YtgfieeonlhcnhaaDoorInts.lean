/-
  The contracts of the functions on slices of numbers that the laws lean on: copy, compare, mark.
-/
import Derived.Test.YtgfieeonlhcnhaaDoorProg
import Derived.Test.YtgfieeonlhcnhaaDoorOwn
import Derived.WalkKit
import Derived.Deep.QuietTactic
import Derived.BigQuiet
namespace Go.Proofs.YtgfieeonlhcnhaaDoor
open Go.RowKit
set_option maxRecDepth 100000

theorem int_info : (Tryd.prog.info? 3).map (fun i => (i.zero, i.size, i.bytes)) = some (some (.int .i64 0), 1, 8) := by kernel_rfl
abbrev NI := NewI 3
abbrev OwI := OI 3


/-- a call that only reads: it hands back v -/
def Quiet (v : Value) (w : World) (e : Ending) (w' : World) : Prop := e = .returned v ∧ ∃ m, w' = w.drewN m
theorem Quiet.below {v : Value} {w : World} {e : Ending} {w' : World} (h : Quiet v w e w') : e = .returned v ∧ Below w.heap.size w w' := by
  obtain ⟨he, m, rfl⟩ := h
  exact ⟨he, below_drewN (Below.refl _ _) m⟩
theorem drewN_zero' (w : World) : w = w.drewN 0 := rfl

theorem eq_upto_all {xs ys : List Int} {n : Nat} (hx : xs.length = n) (hy : ys.length = n) (h : ∀ j, j < n → xs.getD j 0 = ys.getD j 0) : decide (xs = ys) = true := by
  rw [decide_eq_true_eq]
  apply List.ext_getElem (by omega)
  intro j h1 h2
  have := h j (by omega)
  simpa [List.getD, List.getElem?_eq_getElem h1, List.getElem?_eq_getElem h2] using this
theorem eq_upto_no {xs ys : List Int} {j : Nat} (h : xs.getD j 0 ≠ ys.getD j 0) : decide (xs = ys) = false := by
  rw [decide_eq_false_iff_not]; rintro rfl; exact h rfl



theorem newI {w w' : World} {xs : List Int} {v : Value} (h : NI w xs v w') : ∃ A n c, v = .slice A n c ∧ OwI w' w.heap.size w'.heap.size (.slice A n c) xs ∧ Below w.heap.size w w' := by
  obtain ⟨A, n, c, rfl, _⟩ := h.1.rv
  exact ⟨A, n, c, rfl, h.1, h.2⟩
end Go.Proofs.YtgfieeonlhcnhaaDoor
