/-
  Gradients, pairs and slices of pairs that came in: from 'reads as data' to their cells.
-/
import Derived.Test.YtehfglfbnjdcoaaOpenR
import Derived.Test.YtehfglfbnjdcoaaPlainF
namespace Go.Proofs.Ytehfglfbnjdcoaa
open Go.ChangeShapes Go.WideShapes Go.ChangeAt Go.RowKit Go.Deep
set_option maxRecDepth 100000
theorem openGrads {H : Type} {enc : TypeId × Value → H} {W : World} {base : Nat} {v : Value} {d : DataW H} {p : List MemPlace}
    (hv : Value.okWide Try.prog W .any base 72 v) (h : DataW.Trod enc Try.prog W 0 (fun _ => true) true 72 v d p) (hlt : ∀ x ∈ p, x.block < W.heap.size) :
    ∃ A n c l s, ∃ ds : List (List Int), v = .agg #[.slice A n c, .int .i64 l, .bool s] ∧ RL 1 W W.heap.size A n c (ds.flatMap rowF) ∧ (n : Int) ≤ 9223372036854775807 ∧ ∀ (j : Nat) a, ds[j]? = some a → HgR a := by
  obtain ⟨cs, rfl, hsz⟩ := okWide_struct Try.underlying72 hv
  obtain ⟨fuel, hf⟩ := h
  obtain ⟨ys, k, _, hx, hl, hn, hy⟩ := DataW.trod_struct Try.underlying72 hf
  simp only [Value.cells] at hl hy
  rw [show Try.prog.cellsOf 72 = 3 from by kernel_rfl] at hl
  match ys, hn with
  | [y0, y1, y2], _ =>
    match hcs : cs.toList, hl with
    | [a0, a1, a2], _ =>
      have hc0 : Try.prog.cellsOf 70 = 1 := by kernel_rfl
      have hc1 : Try.prog.cellsOf 3 = 1 := by kernel_rfl
      have hc2 : Try.prog.cellsOf 4 = 1 := by kernel_rfl
      have g0 := hy 0 _ rfl
      rw [hcs] at g0
      simp [hc0] at g0
      have g1 := hy 1 _ rfl
      rw [hcs] at g1
      simp [hc1] at g1
      have g2 := hy 2 _ rfl
      rw [hcs] at g2
      simp [hc2] at g2
      have hyl : ∀ x ∈ y0.2, x.block < W.heap.size := fun x hx' => hlt x (by simp only [Prod.mk.injEq] at hx; rw [hx.2]; simp [hx'])
      obtain ⟨A, n, c, ds, h1, h2, h3, h4⟩ := open_rows (d := y0.1) (p := y0.2) g0 hyl
      obtain ⟨l, hr1, _, _⟩ := DataW.trod_int Try.underlying3 g1
      obtain ⟨s, hr2, _⟩ := DataW.trod_bool Try.underlying4 g2
      refine ⟨A, n, c, l, s, ds, ?_, h2, h3, h4⟩
      congr 1
      apply Array.toList_inj.1
      rw [hcs]
      simp at h1 hr1 hr2
      simp [h1, hr1, hr2]
theorem openPair {H : Type} {enc : TypeId × Value → H} {W : World} {base : Nat} {v : Value} {d : DataW H} {p : List MemPlace}
    (hv : Value.okWide Try.prog W .any base 27 v) (h : DataW.Trod enc Try.prog W 0 (fun _ => true) true 27 v d p) (hlt : ∀ x ∈ p, x.block < W.heap.size) :
    ∃ A n c A' n' c' xs ys, v = .agg #[.slice A n c, .slice A' n' c'] ∧ RI W W.heap.size A n c xs ∧ (n : Int) ≤ 9223372036854775807 ∧ RI W W.heap.size A' n' c' ys ∧ (n' : Int) ≤ 9223372036854775807 := by
  obtain ⟨cs, rfl, hsz⟩ := okWide_struct Try.underlying27 hv
  obtain ⟨fuel, hf⟩ := h
  obtain ⟨A, n, c, xs, A', n', c', ys, hcs, h1, h2, h3, h4⟩ := openC2 Try.underlying27 ⟨rfl, rfl⟩ ⟨rfl, rfl⟩ Try.underlying25 Try.underlying3 (by kernel_rfl) (by kernel_rfl) (by kernel_rfl) hf hlt
  refine ⟨A, n, c, A', n', c', xs, ys, ?_, h1, h2, h3, h4⟩
  congr 1
  apply Array.toList_inj.1
  simpa [Value.cells] using hcs
theorem open_pairs {H : Type} {enc : TypeId × Value → H} {W : World} {fuel : Nat} {cs : List Value} {d : DataW H} {p : List MemPlace}
    (hf : DataW.trod enc Try.prog W 0 (fun _ => true) true fuel 77 cs = some (d, p)) (hlt : ∀ x ∈ p, x.block < W.heap.size) :
    ∃ A n c, ∃ ds : List PrD, cs = [.slice A n c] ∧ RL 2 W W.heap.size A n c (ds.flatMap prF) ∧ (n : Int) ≤ 9223372036854775807 ∧ ∀ (j : Nat) a, ds[j]? = some a → HgP a := by
  haveI : Inhabited PrD := ⟨⟨[], []⟩⟩
  refine open_recs prF HgP 2 prF_len Try.underlying77 (by kernel_rfl) (fun fuel cs d p h hp => ?_) hf hlt (by omega)
  obtain ⟨A, n, c, xs, A', n', c', ys, rfl, h1, h2, h3, h4⟩ := openC2 Try.underlying27 ⟨rfl, rfl⟩ ⟨rfl, rfl⟩ Try.underlying25 Try.underlying3 (by kernel_rfl) (by kernel_rfl) (by kernel_rfl) h hp
  refine ⟨⟨xs, ys⟩, by rw [HgP, h1.1, h3.1]; exact ⟨h2, h4⟩, fun i f hi => ?_⟩
  match i with
  | 0 => simp [prF] at hi; subst hi; exact ⟨_, rfl, _, _, _, rfl, h1⟩
  | 1 => simp [prF] at hi; subst hi; exact ⟨_, rfl, _, _, _, rfl, h3⟩
  | i + 2 => simp [prF] at hi
theorem openPairs {H : Type} {enc : TypeId × Value → H} {W : World} {base : Nat} {v : Value} {d : DataW H} {p : List MemPlace}
    (hv : Value.okWide Try.prog W .any base 77 v) (h : DataW.Trod enc Try.prog W 0 (fun _ => true) true 77 v d p) (hlt : ∀ x ∈ p, x.block < W.heap.size) :
    ∃ A n c, ∃ ds : List PrD, v = .slice A n c ∧ RL 2 W W.heap.size A n c (ds.flatMap prF) ∧ (n : Int) ≤ 9223372036854775807 ∧ ∀ (j : Nat) a, ds[j]? = some a → HgP a := by
  obtain ⟨a0, len, cap, rfl⟩ := okWide_slice Try.underlying77 hv
  obtain ⟨fuel, hf⟩ := h
  obtain ⟨A, n, c, ds, hcs, h2, h3, h4⟩ := open_pairs hf hlt
  simp [Value.cells] at hcs
  obtain ⟨rfl, rfl, rfl⟩ := hcs
  exact ⟨_, _, _, ds, rfl, h2, h3, h4⟩
end Go.Proofs.Ytehfglfbnjdcoaa
