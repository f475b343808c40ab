/-
  Slices of records that came in: from 'reads as data' to their cells.
-/
import Derived.Test.YtehfglfbnjdcoaaGreatOpenM
import Derived.Test.YtehfglfbnjdcoaaGreatRec
import Derived.Deep.Slices
namespace Go.Proofs.YtehfglfbnjdcoaaGreat
open Go.ChangeShapes Go.WideShapes Go.ChangeAt Go.RowKit Go.Deep
set_option maxRecDepth 100000
section
variable {H : Type} {enc : TypeId × Value → H} {P : Program} {W : World} {base : Nat}
theorem openC3 {t ti ts e : TypeId} {f0 f1 f2 f3 : Field} (ht : P.underlying t = some (.struct #[f0, f1, f2, f3])) (e0 : f0.type = ti ∧ f0.offset = 0) (e1 : f1.type = ti ∧ f1.offset = 1) (e2 : f2.type = ti ∧ f2.offset = 2) (e3 : f3.type = ts ∧ f3.offset = 3)
    (hti : P.underlying ti = some (.int .i64)) (hts : P.underlying ts = some (.slice e)) (he : P.underlying e = some (.int .i64)) (hc1 : P.cellsOf e = 1) (hci : P.cellsOf ti = 1) (hcl : P.cellsOf ts = 1) (hct : P.cellsOf t = 4) {fuel : Nat} {cs : List Value} {d : DataW H} {p : List MemPlace}
    (hf : DataW.trod enc P W 0 (fun _ => true) true fuel t cs = some (d, p)) (hlt : ∀ x ∈ p, x.block < W.heap.size) :
    ∃ r0 r1 r2 A n cap xs, cs = [.int .i64 r0, .int .i64 r1, .int .i64 r2, .slice A n cap] ∧ RI W W.heap.size A n cap xs ∧ (n : Int) ≤ 9223372036854775807 := by
  obtain ⟨ys, k, _, hx, hl, hn, hy⟩ := DataW.trod_struct ht hf
  rw [hct] at hl
  match ys, hn with
  | [y0, y1, y2, y3], _ =>
    match cs, hl with
    | [a0, a1, a2, a3], _ =>
      have g0 := hy 0 f0 rfl
      rw [e0.1, e0.2, hci] at g0
      simp at g0
      have g1 := hy 1 f1 rfl
      rw [e1.1, e1.2, hci] at g1
      simp at g1
      have g2 := hy 2 f2 rfl
      rw [e2.1, e2.2, hci] at g2
      simp at g2
      have g3 := hy 3 f3 rfl
      rw [e3.1, e3.2, hcl] at g3
      simp at g3
      obtain ⟨r0, hr0, _, _⟩ := DataW.trod_int hti g0
      obtain ⟨r1, hr1, _, _⟩ := DataW.trod_int hti g1
      obtain ⟨r2, hr2, _, _⟩ := DataW.trod_int hti g2
      have hyl : ∀ x ∈ y3.2, x.block < W.heap.size := fun x hx' => hlt x (by simp only [Prod.mk.injEq] at hx; rw [hx.2]; simp [hx'])
      obtain ⟨A, n, cap, xs, hrs, hR, hN⟩ := open_RIm (d := y3.1) (p := y3.2) hts he hc1 g3 hyl
      refine ⟨r0, r1, r2, A, n, cap, xs, ?_, hR, hN⟩
      simp at hr0 hr1 hr2 hrs
      simp [hr0, hr1, hr2, hrs]
theorem openC0 {t ts e : TypeId} {f0 : Field} (ht : P.underlying t = some (.struct #[f0])) (e0 : f0.type = ts ∧ f0.offset = 0)
    (hts : P.underlying ts = some (.slice e)) (he : P.underlying e = some (.int .i64)) (hc1 : P.cellsOf e = 1) (hcl : P.cellsOf ts = 1) (hct : P.cellsOf t = 1) {fuel : Nat} {cs : List Value} {d : DataW H} {p : List MemPlace}
    (hf : DataW.trod enc P W 0 (fun _ => true) true fuel t cs = some (d, p)) (hlt : ∀ x ∈ p, x.block < W.heap.size) :
    ∃ A n cap xs, cs = [.slice A n cap] ∧ RI W W.heap.size A n cap xs ∧ (n : Int) ≤ 9223372036854775807 := by
  obtain ⟨ys, k, _, hx, hl, hn, hy⟩ := DataW.trod_struct ht hf
  rw [hct] at hl
  match ys, hn with
  | [y0], _ =>
    match cs, hl with
    | [a0], _ =>
      have g0 := hy 0 f0 rfl
      rw [e0.1, e0.2, hcl] at g0
      simp at g0
      have hyl : ∀ x ∈ y0.2, x.block < W.heap.size := fun x hx' => hlt x (by simp only [Prod.mk.injEq] at hx; rw [hx.2]; simp [hx'])
      exact open_RIm (d := y0.1) (p := y0.2) hts he hc1 g0 hyl
theorem openC2 {t ts e : TypeId} {f0 f1 : Field} (ht : P.underlying t = some (.struct #[f0, f1])) (e0 : f0.type = ts ∧ f0.offset = 0) (e1 : f1.type = ts ∧ f1.offset = 1)
    (hts : P.underlying ts = some (.slice e)) (he : P.underlying e = some (.int .i64)) (hc1 : P.cellsOf e = 1) (hcl : P.cellsOf ts = 1) (hct : P.cellsOf t = 2) {fuel : Nat} {cs : List Value} {d : DataW H} {p : List MemPlace}
    (hf : DataW.trod enc P W 0 (fun _ => true) true fuel t cs = some (d, p)) (hlt : ∀ x ∈ p, x.block < W.heap.size) :
    ∃ A n cap xs A' n' cap' ys, cs = [.slice A n cap, .slice A' n' cap'] ∧ RI W W.heap.size A n cap xs ∧ (n : Int) ≤ 9223372036854775807 ∧ RI W W.heap.size A' n' cap' ys ∧ (n' : Int) ≤ 9223372036854775807 := by
  obtain ⟨ys, k, _, hx, hl, hn, hy⟩ := DataW.trod_struct ht hf
  rw [hct] at hl
  match ys, hn with
  | [y0, y1], _ =>
    match cs, hl with
    | [a0, a1], _ =>
      have g0 := hy 0 f0 rfl
      rw [e0.1, e0.2, hcl] at g0
      simp at g0
      have g1 := hy 1 f1 rfl
      rw [e1.1, e1.2, hcl] at g1
      simp at g1
      have hyl : ∀ x ∈ y0.2, x.block < W.heap.size := fun x hx' => hlt x (by simp only [Prod.mk.injEq] at hx; rw [hx.2]; simp [hx'])
      have hyl1 : ∀ x ∈ y1.2, x.block < W.heap.size := fun x hx' => hlt x (by simp only [Prod.mk.injEq] at hx; rw [hx.2]; simp [hx'])
      obtain ⟨A, n, cap, xs, h1, h2, h3⟩ := open_RIm (d := y0.1) (p := y0.2) hts he hc1 g0 hyl
      obtain ⟨A', n', cap', xs', h1', h2', h3'⟩ := open_RIm (d := y1.1) (p := y1.2) hts he hc1 g1 hyl1
      simp at h1 h1'
      exact ⟨A, n, cap, xs, A', n', cap', xs', by simp [h1, h1'], h2, h3, h2', h3'⟩
/-- a slice of records, whatever they are -/
theorem open_recs {α : Type} [Inhabited α] (g : α → List Fl) (Good : α → Prop) (m : Nat) (hm : ∀ a, (g a).length = m) {t e : TypeId} (ht : P.underlying t = some (.slice e)) (hc : P.cellsOf e = m)
    (hel : ∀ (fuel : Nat) (cs : List Value) (d : DataW H) (p : List MemPlace), DataW.trod enc P W 0 (fun _ => true) true fuel e cs = some (d, p) → (∀ x ∈ p, x.block < W.heap.size) → ∃ a : α, Good a ∧ ∀ (i : Nat) f, (g a)[i]? = some f → ∃ v, cs[i]? = some v ∧ FV W W.heap.size v f)
    {fuel : Nat} {cs : List Value} {d : DataW H} {p : List MemPlace} (hf : DataW.trod enc P W 0 (fun _ => true) true fuel t cs = some (d, p)) (hlt : ∀ x ∈ p, x.block < W.heap.size) (hm0 : 0 < m) :
    ∃ A n c, ∃ ds : List α, cs = [.slice A n c] ∧ RL m W W.heap.size A n c (ds.flatMap g) ∧ (n : Int) ≤ 9223372036854775807 ∧ ∀ (j : Nat) a, ds[j]? = some a → Good a := by
  rcases open_slice ht hf with ⟨rfl, _⟩ | ⟨a, len, cap, m', n, D, Pl, rfl, _, hl, hmx, hmm, hx, hel'⟩
  · exact ⟨none, 0, 0, [], rfl, RL.nil _ _ _, by omega, fun j a h => by simp at h⟩
  simp only [if_true] at hmm
  subst hmm
  simp only [Prod.mk.injEq] at hx
  have hPl : ∀ i, i < m' → ∀ x ∈ Pl i, x.block < W.heap.size := fun i hi x hxx => hlt x (by
    rw [hx.2, List.mem_append]
    exact .inr (List.mem_flatMap.2 ⟨i, by simpa using hi, hxx⟩))
  obtain ⟨F, hF⟩ := choose_lt (α := α) (n := len) (p := fun i a' => Good a' ∧ ∀ (j : Nat) f, (g a')[j]? = some f → ∃ v, W.cell? ((a.add (i * m)).add j) = some v ∧ FV W W.heap.size v f) (fun i hi => by
    obtain ⟨cs', h1, h2⟩ := hel' i (by omega)
    rw [hc] at h1
    obtain ⟨_, hlen, hcell⟩ := World.cells?_some h1
    obtain ⟨a', hg, h3⟩ := hel _ _ _ _ h2 (hPl i (by omega))
    refine ⟨a', hg, fun j f hj => ?_⟩
    obtain ⟨v, hv, hfv⟩ := h3 j f hj
    have hjm : j < m := by
      have := (List.getElem?_eq_some_iff.1 hj).1
      rw [hm] at this; exact this
    exact ⟨v, by rw [hcell j hjm, hv], hfv⟩)
  refine ⟨some a, len, m', (List.range len).map F, rfl, ⟨by rw [flat_len g m hm]; simp, hl, fun hn => ?_⟩, by unfold maxLen at hmx; omega, fun j a' hj => ?_⟩
  · obtain ⟨b, off, spot⟩ := a
    have hspot : spot = none := by
      obtain ⟨f, hf0⟩ : ∃ f, (g (F 0))[0]? = some f := ⟨_, List.getElem?_eq_getElem (by rw [hm]; exact hm0)⟩
      obtain ⟨v, hv, _⟩ := (hF 0 hn).2 0 f hf0
      simpa [Addr.add] using World.cell?_spot hv
    subst hspot
    have hbW : b < W.heap.size := by
      have h0 : MemPlace.cell b off ∈ p := by
        rw [hx.2, List.mem_append]
        refine .inl (MemPlace.mem_row.2 ⟨0, ?_, by simp⟩)
        rw [hc]
        exact Nat.mul_pos (by omega) hm0
      exact hlt _ h0
    refine ⟨b, off, rfl, hbW, fun p f hp => ?_⟩
    have hplt : p < len * m := by
      have := (List.getElem?_eq_some_iff.1 hp).1
      rw [flat_len g m hm] at this
      simpa using this
    have hj : p / m < len := by rw [Nat.div_lt_iff_lt_mul hm0]; exact hplt
    have hget := flat_get g m hm ((List.range len).map F) (p / m) (p % m) (F (p / m)) (by simp [hj]) (Nat.mod_lt _ hm0)
    rw [Nat.div_add_mod'] at hget
    rw [hget] at hp
    obtain ⟨v, hv, hfv⟩ := (hF (p / m) hj).2 (p % m) f hp
    refine ⟨v, ?_, hfv⟩
    rw [add_add, Nat.div_add_mod'] at hv
    have h2 : (⟨b, off, none⟩ : Addr).add p = ⟨b, off + p, none⟩ := by unfold Addr.add; split <;> simp_all
    rw [← h2]; exact hv
  · rw [List.getElem?_map] at hj
    obtain ⟨i, hi, rfl⟩ := Option.map_eq_some_iff.1 hj
    have hi' : i < len := by
      have := List.mem_of_getElem? hi
      simpa using this
    exact (hF i hi').1
instance : Inhabited OpD := ⟨⟨0, 0, 0, []⟩⟩
instance : Inhabited PrD := ⟨⟨[], []⟩⟩
def HgO (d : OpD) : Prop := (d.p.length : Int) ≤ 9223372036854775807
def HgR (d : List Int) : Prop := (d.length : Int) ≤ 9223372036854775807
def HgP (d : PrD) : Prop := (d.x.length : Int) ≤ 9223372036854775807 ∧ (d.t.length : Int) ≤ 9223372036854775807
end
theorem open_ops {H : Type} {enc : TypeId × Value → H} {W : World} {fuel : Nat} {cs : List Value} {d : DataW H} {p : List MemPlace}
    (hf : DataW.trod enc Tryz.prog W 0 (fun _ => true) true fuel 22 cs = some (d, p)) (hlt : ∀ x ∈ p, x.block < W.heap.size) :
    ∃ A n c, ∃ ds : List OpD, cs = [.slice A n c] ∧ RL 4 W W.heap.size A n c (ds.flatMap opF) ∧ (n : Int) ≤ 9223372036854775807 ∧ ∀ (j : Nat) a, ds[j]? = some a → HgO a := by
  refine open_recs opF HgO 4 opF_len Tryz.underlying22 (by kernel_rfl) (fun fuel cs d p h hp => ?_) hf hlt (by omega)
  obtain ⟨r0, r1, r2, A, n, c, xs, rfl, hR, hN⟩ := openC3 Tryz.underlying65 ⟨rfl, rfl⟩ ⟨rfl, rfl⟩ ⟨rfl, rfl⟩ ⟨rfl, rfl⟩ Tryz.underlying3 Tryz.underlying47 Tryz.underlying3 (by kernel_rfl) (by kernel_rfl) (by kernel_rfl) (by kernel_rfl) h hp
  refine ⟨⟨r0, r1, r2, xs⟩, by rw [HgO, hR.1]; exact hN, fun i f hi => ?_⟩
  match i with
  | 0 => simp [opF] at hi; subst hi; exact ⟨_, rfl, rfl⟩
  | 1 => simp [opF] at hi; subst hi; exact ⟨_, rfl, rfl⟩
  | 2 => simp [opF] at hi; subst hi; exact ⟨_, rfl, rfl⟩
  | 3 => simp [opF] at hi; subst hi; exact ⟨_, rfl, _, _, _, rfl, hR⟩
  | i + 4 => simp [opF] at hi
theorem openModel {H : Type} {enc : TypeId × Value → H} {W : World} {base : Nat} {v : Value} {d : DataW H} {p : List MemPlace}
    (hv : Value.okWide Tryz.prog W .any base 24 v) (h : DataW.Trod enc Tryz.prog W 0 (fun _ => true) true 24 v d p) (hlt : ∀ x ∈ p, x.block < W.heap.size) :
    ∃ A n c, ∃ ds : List OpD, v = .agg #[.slice A n c] ∧ RL 4 W W.heap.size A n c (ds.flatMap opF) ∧ (n : Int) ≤ 9223372036854775807 ∧ ∀ (j : Nat) a, ds[j]? = some a → HgO a := by
  obtain ⟨cs, rfl, hsz⟩ := okWide_struct Tryz.underlying24 hv
  obtain ⟨fuel, hf⟩ := h
  obtain ⟨ys, k, _, hx, hl, hn, hy⟩ := DataW.trod_struct Tryz.underlying24 hf
  simp only [Value.cells] at hl hy
  rw [show Tryz.prog.cellsOf 24 = 1 from by kernel_rfl] at hl
  match ys, hn with
  | [y0], _ =>
    match hcs : cs.toList, hl with
    | [a0], _ =>
      have g0 := hy 0 _ rfl
      rw [hcs] at g0
      have hc1 : Tryz.prog.cellsOf 22 = 1 := by kernel_rfl
      simp [hc1] at g0
      have hyl : ∀ x ∈ y0.2, x.block < W.heap.size := fun x hx' => hlt x (by simp only [Prod.mk.injEq] at hx; rw [hx.2]; simp [hx'])
      obtain ⟨A, n, c, ds, h1, h2, h3, h4⟩ := open_ops (d := y0.1) (p := y0.2) g0 hyl
      refine ⟨A, n, c, ds, ?_, h2, h3, h4⟩
      congr 1
      apply Array.toList_inj.1
      rw [hcs]
      simp at h1
      simp [h1]
end Go.Proofs.YtehfglfbnjdcoaaGreat
