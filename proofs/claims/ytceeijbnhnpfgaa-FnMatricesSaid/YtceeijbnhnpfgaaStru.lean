/-
  The laws' own functions over structs of numbers and one slice of numbers.
-/
import Derived.Test.YtceeijbnhnpfgaaProg
import Derived.Test.YtceeijbnhnpfgaaInts
import Derived.WalkKit
namespace Go.Proofs.Ytceeijbnhnpfgaa
open Go.RowKit
section
variable {w : World} {a : Nat} {cs : Array Value} {t : TypeId}
theorem blk_cell (h : w.heap[a]? = some (.cells cs t (0, 0))) (j : Nat) : w.cell? ⟨a, j, none⟩ = cs[j]? := by simp [World.cell?, h]
theorem blk_free (h : w.heap[a]? = some (.cells cs t (0, 0))) (j : Nat) : w.frozen? ⟨a, j, none⟩ = false := by simp [World.frozen?, h]
theorem blk_set (h : w.heap[a]? = some (.cells cs t (0, 0))) (j : Nat) (u : Value) : (w.setCell ⟨a, j, none⟩ u).heap[a]? = some (.cells (cs.setIfInBounds j u) t (0, 0)) := by
  simp [World.setCell, Array.getElem?_modify, h]
theorem blk_far (h : w.heap[a]? = some (.cells cs t (0, 0))) {b j : Nat} (hne : a ≠ b) (u : Value) : (w.setCell ⟨b, j, none⟩ u).heap[a]? = some (.cells cs t (0, 0)) :=
  (Below.heap_setCell w _ u a hne).trans h
/-- what was drawn in between does not matter -/
theorem undrew {B : Nat} {w' : World} (h : Below B w.drew w') : Below B w w' := ⟨h.os, h.tape, h.output, h.size, h.block⟩
theorem onlySet {w' : World} {p : Nat → Prop} (h : Only p w w') {a : Addr} (ha : p a.block) (u : Value) : Only p w (w'.setCell a u) :=
  h.trans ⟨rfl, rfl, rfl, by simp [World.setCell], fun k _ hn => Below.heap_setCell _ _ _ _ (fun e => hn (e ▸ ha))⟩
/-- a box's cell, behind marks on another thing -/
theorem OI.boxfar {e : TypeId} {w' : World} {lo hi : Nat} {v : Value} {ys : List Int} {p : Addr} {x : Value} (hv : OI e w lo hi v ys) (ho : Only (fun b => v.ownBlock = some b) w w') (hc : w.cell? p = some x) (hd : p.block < lo ∨ hi ≤ p.block) : w'.cell? p = some x := by
  rw [ho.cell (World.block_lt_of_cell? w p hc) (fun h3 => by have := (hv.1.lt _ h3).1; have := hv.2 _ h3; omega)]
  exact hc
end
/-- a value of the struct -/
abbrev Matv (f0 f1 : Int) (A : Option Addr) (n cap : Nat) : Value := .agg #[.int .i64 f0, .int .i64 f1, .slice A n cap]
/-- a value of the struct -/
abbrev Opv (f0 f1 f2 : Int) (A : Option Addr) (n cap : Nat) : Value := .agg #[.int .i64 f0, .int .i64 f1, .int .i64 f2, .slice A n cap]
end Go.Proofs.Ytceeijbnhnpfgaa
