/-
  Gradients, pairs and slices of pairs that came in: from 'reads as data' to their cells.
-/
import Derived.Test.YtehfglfbnjdcoaaGreatOpenR
import Derived.Test.YtehfglfbnjdcoaaGreatPlainF
namespace Go.Proofs.YtehfglfbnjdcoaaGreat
open Go.ChangeShapes Go.WideShapes Go.ChangeAt Go.RowKit Go.Deep
set_option maxRecDepth 100000
theorem openPair {H : Type} {enc : TypeId × Value → H} {W : World} {base : Nat} {v : Value} {d : DataW H} {p : List MemPlace}
    (hv : Value.okWide Tryz.prog W .any base 49 v) (h : DataW.Trod enc Tryz.prog W 0 (fun _ => true) true 49 v d p) (hlt : ∀ x ∈ p, x.block < W.heap.size) :
    ∃ A n c A' n' c' xs ys, v = .agg #[.slice A n c, .slice A' n' c'] ∧ RI W W.heap.size A n c xs ∧ (n : Int) ≤ 9223372036854775807 ∧ RI W W.heap.size A' n' c' ys ∧ (n' : Int) ≤ 9223372036854775807 := by
  obtain ⟨cs, rfl, hsz⟩ := okWide_struct Tryz.underlying49 hv
  obtain ⟨fuel, hf⟩ := h
  obtain ⟨A, n, c, xs, A', n', c', ys, hcs, h1, h2, h3, h4⟩ := openC2 Tryz.underlying49 ⟨rfl, rfl⟩ ⟨rfl, rfl⟩ Tryz.underlying47 Tryz.underlying3 (by kernel_rfl) (by kernel_rfl) (by kernel_rfl) hf hlt
  refine ⟨A, n, c, A', n', c', xs, ys, ?_, h1, h2, h3, h4⟩
  congr 1
  apply Array.toList_inj.1
  simpa [Value.cells] using hcs
theorem open_pairs {H : Type} {enc : TypeId × Value → H} {W : World} {fuel : Nat} {cs : List Value} {d : DataW H} {p : List MemPlace}
    (hf : DataW.trod enc Tryz.prog W 0 (fun _ => true) true fuel 25 cs = some (d, p)) (hlt : ∀ x ∈ p, x.block < W.heap.size) :
    ∃ A n c, ∃ ds : List PrD, cs = [.slice A n c] ∧ RL 2 W W.heap.size A n c (ds.flatMap prF) ∧ (n : Int) ≤ 9223372036854775807 ∧ ∀ (j : Nat) a, ds[j]? = some a → HgP a := by
  haveI : Inhabited PrD := ⟨⟨[], []⟩⟩
  refine open_recs prF HgP 2 prF_len Tryz.underlying25 (by kernel_rfl) (fun fuel cs d p h hp => ?_) hf hlt (by omega)
  obtain ⟨A, n, c, xs, A', n', c', ys, rfl, h1, h2, h3, h4⟩ := openC2 Tryz.underlying49 ⟨rfl, rfl⟩ ⟨rfl, rfl⟩ Tryz.underlying47 Tryz.underlying3 (by kernel_rfl) (by kernel_rfl) (by kernel_rfl) h hp
  refine ⟨⟨xs, ys⟩, by rw [HgP, h1.1, h3.1]; exact ⟨h2, h4⟩, fun i f hi => ?_⟩
  match i with
  | 0 => simp [prF] at hi; subst hi; exact ⟨_, rfl, _, _, _, rfl, h1⟩
  | 1 => simp [prF] at hi; subst hi; exact ⟨_, rfl, _, _, _, rfl, h3⟩
  | i + 2 => simp [prF] at hi
theorem openPairs {H : Type} {enc : TypeId × Value → H} {W : World} {base : Nat} {v : Value} {d : DataW H} {p : List MemPlace}
    (hv : Value.okWide Tryz.prog W .any base 25 v) (h : DataW.Trod enc Tryz.prog W 0 (fun _ => true) true 25 v d p) (hlt : ∀ x ∈ p, x.block < W.heap.size) :
    ∃ A n c, ∃ ds : List PrD, v = .slice A n c ∧ RL 2 W W.heap.size A n c (ds.flatMap prF) ∧ (n : Int) ≤ 9223372036854775807 ∧ ∀ (j : Nat) a, ds[j]? = some a → HgP a := by
  obtain ⟨a0, len, cap, rfl⟩ := okWide_slice Tryz.underlying25 hv
  obtain ⟨fuel, hf⟩ := h
  obtain ⟨A, n, c, ds, hcs, h2, h3, h4⟩ := open_pairs hf hlt
  simp [Value.cells] at hcs
  obtain ⟨rfl, rfl, rfl⟩ := hcs
  exact ⟨_, _, _, ds, rfl, h2, h3, h4⟩
end Go.Proofs.YtehfglfbnjdcoaaGreat
