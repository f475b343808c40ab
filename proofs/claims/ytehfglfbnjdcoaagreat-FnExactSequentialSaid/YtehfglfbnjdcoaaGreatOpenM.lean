/-
  A struct of numbers and one slice of numbers that came in: from 'reads as data' to its cells.
-/
import Derived.Test.YtehfglfbnjdcoaaGreatProg
import Derived.Test.YtehfglfbnjdcoaaGreatOpen
import Derived.Test.YtehfglfbnjdcoaaGreatStru
namespace Go.Proofs.YtehfglfbnjdcoaaGreat
open Go.ChangeShapes Go.WideShapes Go.ChangeAt Go.RowKit
set_option maxRecDepth 100000
section
variable {H : Type} {enc : TypeId × Value → H} {P : Program} {W : World} {base : Nat}
theorem open_RIm {t e : TypeId} (ht : P.underlying t = some (.slice e)) (he : P.underlying e = some (.int .i64)) (hc1 : P.cellsOf e = 1) {fuel : Nat} {cs : List Value} {d : DataW H} {p : List MemPlace}
    (hf : DataW.trod enc P W 0 (fun _ => true) true fuel t cs = some (d, p)) (hlt : ∀ x ∈ p, x.block < W.heap.size) : ∃ A n c xs, cs = [.slice A n c] ∧ RI W W.heap.size A n c xs ∧ (n : Int) ≤ 9223372036854775807 := by
  obtain ⟨A, n, c, xs, hcs, hR⟩ := open_RI ht he hc1 hf hlt
  refine ⟨A, n, c, xs, hcs, hR, ?_⟩
  rcases open_ints ht he hc1 hf with ⟨hcs', _⟩ | ⟨a, len, cap, zs, hcs', _, hl, hm, _⟩
  · rw [hcs] at hcs'; simp at hcs'; omega
  · rw [hcs] at hcs'; simp at hcs'; unfold maxLen at hm; omega
theorem openS2 {t ti ts e : TypeId} {f0 f1 f2 : Field} (ht : P.underlying t = some (.struct #[f0, f1, f2])) (e0 : f0.type = ti ∧ f0.offset = 0) (e1 : f1.type = ti ∧ f1.offset = 1) (e2 : f2.type = ts ∧ f2.offset = 2)
    (hti : P.underlying ti = some (.int .i64)) (hts : P.underlying ts = some (.slice e)) (he : P.underlying e = some (.int .i64)) (hc1 : P.cellsOf e = 1) (hci : P.cellsOf ti = 1) (hcl : P.cellsOf ts = 1) (hct : P.cellsOf t = 3) {v : Value} {d : DataW H} {p : List MemPlace}
    (hv : Value.okWide P W .any base t v) (h : DataW.Trod enc P W 0 (fun _ => true) true t v d p) (hlt : ∀ x ∈ p, x.block < W.heap.size) :
    ∃ r0 r1 A n cap xs, v = .agg #[.int .i64 r0, .int .i64 r1, .slice A n cap] ∧ RI W W.heap.size A n cap xs ∧ (n : Int) ≤ 9223372036854775807 := by
  obtain ⟨cs, rfl, hsz⟩ := okWide_struct ht hv
  obtain ⟨fuel, hf⟩ := h
  obtain ⟨ys, k, _, hx, hl, hn, hy⟩ := DataW.trod_struct ht hf
  simp only [Value.cells] at hl hy
  rw [hct] at hl
  match ys, hn with
  | [y0, y1, y2], _ =>
    match hcs : cs.toList, hl with
    | [a0, a1, a2], _ =>
      have g0 := hy 0 f0 rfl
      rw [hcs, e0.1, e0.2, hci] at g0
      simp at g0
      have g1 := hy 1 f1 rfl
      rw [hcs, e1.1, e1.2, hci] at g1
      simp at g1
      have g2 := hy 2 f2 rfl
      rw [hcs, e2.1, e2.2, hcl] at g2
      simp at g2
      obtain ⟨r0, hr0, _, _⟩ := DataW.trod_int hti g0
      obtain ⟨r1, hr1, _, _⟩ := DataW.trod_int hti g1
      have hy2 : ∀ x ∈ y2.2, x.block < W.heap.size := fun x hx' => hlt x (by simp only [Prod.mk.injEq] at hx; rw [hx.2]; simp [hx'])
      obtain ⟨A, n, cap, xs, hr2, hR, hN⟩ := open_RIm (d := y2.1) (p := y2.2) hts he hc1 g2 hy2
      refine ⟨r0, r1, A, n, cap, xs, ?_, hR, hN⟩
      congr 1
      apply Array.toList_inj.1
      rw [hcs]
      simp at hr0 hr1 hr2
      simp [hr0, hr1, hr2]
theorem openS3 {t ti ts e : TypeId} {f0 f1 f2 f3 : Field} (ht : P.underlying t = some (.struct #[f0, f1, f2, f3])) (e0 : f0.type = ti ∧ f0.offset = 0) (e1 : f1.type = ti ∧ f1.offset = 1) (e2 : f2.type = ti ∧ f2.offset = 2) (e3 : f3.type = ts ∧ f3.offset = 3)
    (hti : P.underlying ti = some (.int .i64)) (hts : P.underlying ts = some (.slice e)) (he : P.underlying e = some (.int .i64)) (hc1 : P.cellsOf e = 1) (hci : P.cellsOf ti = 1) (hcl : P.cellsOf ts = 1) (hct : P.cellsOf t = 4) {v : Value} {d : DataW H} {p : List MemPlace}
    (hv : Value.okWide P W .any base t v) (h : DataW.Trod enc P W 0 (fun _ => true) true t v d p) (hlt : ∀ x ∈ p, x.block < W.heap.size) :
    ∃ r0 r1 r2 A n cap xs, v = .agg #[.int .i64 r0, .int .i64 r1, .int .i64 r2, .slice A n cap] ∧ RI W W.heap.size A n cap xs ∧ (n : Int) ≤ 9223372036854775807 := by
  obtain ⟨cs, rfl, hsz⟩ := okWide_struct ht hv
  obtain ⟨fuel, hf⟩ := h
  obtain ⟨ys, k, _, hx, hl, hn, hy⟩ := DataW.trod_struct ht hf
  simp only [Value.cells] at hl hy
  rw [hct] at hl
  match ys, hn with
  | [y0, y1, y2, y3], _ =>
    match hcs : cs.toList, hl with
    | [a0, a1, a2, a3], _ =>
      have g0 := hy 0 f0 rfl
      rw [hcs, e0.1, e0.2, hci] at g0
      simp at g0
      have g1 := hy 1 f1 rfl
      rw [hcs, e1.1, e1.2, hci] at g1
      simp at g1
      have g2 := hy 2 f2 rfl
      rw [hcs, e2.1, e2.2, hci] at g2
      simp at g2
      have g3 := hy 3 f3 rfl
      rw [hcs, e3.1, e3.2, hcl] at g3
      simp at g3
      obtain ⟨r0, hr0, _, _⟩ := DataW.trod_int hti g0
      obtain ⟨r1, hr1, _, _⟩ := DataW.trod_int hti g1
      obtain ⟨r2, hr2, _, _⟩ := DataW.trod_int hti g2
      have hy3 : ∀ x ∈ y3.2, x.block < W.heap.size := fun x hx' => hlt x (by simp only [Prod.mk.injEq] at hx; rw [hx.2]; simp [hx'])
      obtain ⟨A, n, cap, xs, hr3, hR, hN⟩ := open_RIm (d := y3.1) (p := y3.2) hts he hc1 g3 hy3
      refine ⟨r0, r1, r2, A, n, cap, xs, ?_, hR, hN⟩
      congr 1
      apply Array.toList_inj.1
      rw [hcs]
      simp at hr0 hr1 hr2 hr3
      simp [hr0, hr1, hr2, hr3]
end
end Go.Proofs.YtehfglfbnjdcoaaGreat
