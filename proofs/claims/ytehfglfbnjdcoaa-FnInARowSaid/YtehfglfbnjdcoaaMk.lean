/-
  Marks laid one by one over a slice of records; and the look for them.
-/
import Derived.Test.YtehfglfbnjdcoaaRec
namespace Go.Proofs.Ytehfglfbnjdcoaa
open Go.RowKit
set_option maxRecDepth 100000

/-- the first p fields bear marks, the next mark is z -/
structure MK (e T m : TypeId) (k0 : Int) (fs : List Fl) (w : World) (lo hi b n c p : Nat) (z : Int) (wr : World) : Prop where
  num : z = k0 + (mkN (fs.take p) : Int)
  ol : OL e T m wr lo hi (.slice (some ⟨b, 0, none⟩) n c) n (mkTo k0 p fs)
  only : Only (fun q => lo ≤ q ∧ q < hi) w wr
section
variable {e T m : TypeId} {k0 : Int} {fs : List Fl} {w wr w' : World} {lo hi b n c p : Nat} {z : Int}
theorem MK.start (h : OL e T m w lo hi (.slice (some ⟨b, 0, none⟩) n c) n fs) : MK e T m k0 fs w lo hi b n c 0 k0 w :=
  ⟨by simp [mkN], by rw [mkTo_zero]; exact h, Only.refl _ _⟩
theorem MK.cell (h : MK e T m k0 fs w lo hi b n c p z wr) {q : Nat} {f : Fl} (hq : p ≤ q) (hf : fs[q]? = some f) : ∃ u, wr.cell? ⟨b, q, none⟩ = some u ∧ wr.frozen? ⟨b, q, none⟩ = false ∧ FO e wr lo hi u f :=
  h.ol.at_ ((mkTo_get k0 fs p q hq).trans hf)
theorem MK.bound (h : MK e T m k0 fs w lo hi b n c p z wr) {M : Int} (hM : k0 + (mkN fs : Int) ≤ M) : k0 ≤ z ∧ z ≤ M := by
  have := mkN_le fs p
  have := h.num
  omega
theorem MK.setn (h : MK e T m k0 fs w lo hi b n c p z wr) {x : Int} (hf : fs[p]? = some (.n x)) : MK e T m k0 fs w lo hi b n c (p + 1) (z + 1) (wr.setCell ⟨b, p, none⟩ (.int .i64 z)) := by
  have hb := h.ol.lt b rfl
  refine ⟨?_, ?_, h.only.set b p ⟨hb.1, hb.2.1⟩ _⟩
  · have := mkN_take fs p _ hf
    simp only [sz1] at this
    rw [this, h.num]; omega
  · have := h.ol.turn_n (p := p) rfl z
    have e1 := mkTo_set k0 fs p _ hf
    simp only [mk1] at e1
    rw [← h.num] at e1
    rw [e1] at this
    exact this
theorem MK.row (h : MK e T m k0 fs w lo hi b n c p z wr) {xs : List Int} {u : Value} (hf : fs[p]? = some (.s xs)) (hu : wr.cell? ⟨b, p, none⟩ = some u) (hown : OI e wr lo hi u xs) (hm : OI e w' lo hi u (marks z xs.length)) (ho : Only (fun q => u.ownBlock = some q) wr w') :
    MK e T m k0 fs w lo hi b n c (p + 1) (z + xs.length) w' := by
  refine ⟨?_, ?_, h.only.trans (ho.mono fun q hq => ⟨(hown.1.lt q hq).1, hown.2 q hq⟩)⟩
  · have := mkN_take fs p _ hf
    simp only [sz1] at this
    rw [this, h.num]; omega
  · have := h.ol.turn_s ((mkTo_get k0 fs p p (Nat.le_refl _)).trans hf) rfl hu hm ho
    have e1 := mkTo_set k0 fs p _ hf
    simp only [mk1] at e1
    rw [← h.num] at e1
    rw [e1] at this
    exact this
theorem MK.done (h : MK e T m k0 fs w lo hi b n c p z wr) (hp : fs.length ≤ p) : z = k0 + (mkN fs : Int) ∧ OL e T m wr lo hi (.slice (some ⟨b, 0, none⟩) n c) n (mkF k0 fs) ∧ Only (fun q => lo ≤ q ∧ q < hi) w wr := by
  have h1 := h.num
  have h2 := h.ol
  rw [List.take_of_length_le hp] at h1
  rw [mkTo_all k0 fs p hp] at h2
  exact ⟨h1, h2, h.only⟩
theorem OL.nilOf {A : Option Addr} (h : OL e T m w lo hi (.slice A n c) n fs) (hn : n = 0) : fs = [] := by
  have := h.rl.1
  rw [hn, Nat.zero_mul] at this
  exact List.eq_nil_of_length_eq_zero this
theorem OL.addr {A : Option Addr} (h : OL e T m w lo hi (.slice A n c) n fs) (hn : 0 < n) : ∃ b, A = some ⟨b, 0, none⟩ := by
  obtain ⟨vs, ⟨_, hc⟩, _⟩ := h
  rcases hc with ⟨_, rfl⟩ | ⟨g, cap, cur, h1, _⟩
  · omega
  · simp only [Value.slice.injEq] at h1
    exact ⟨g, h1.1⟩
theorem mkN_append : ∀ (fs gs : List Fl), mkN (fs ++ gs) = mkN fs + mkN gs
  | [], gs => by simp [mkN]
  | f :: fs, gs => by rw [List.cons_append, mkN, mkN_append fs, mkN, Nat.add_assoc]
theorem mkN_flat {α : Type} (g : α → List Fl) (b : Nat) : ∀ (ds : List α), (∀ d ∈ ds, mkN (g d) ≤ b) → mkN (ds.flatMap g) ≤ ds.length * b
  | [], _ => by simp [mkN]
  | d :: ds, h => by
    rw [List.flatMap_cons, mkN_append, List.length_cons, Nat.succ_mul]
    have := mkN_flat g b ds (fun d hd => h d (by simp [hd]))
    have := h d (by simp)
    omega
theorem mkN_rows {ds : List (List Int)} {n b : Nat} (hn : ds.length ≤ n) (h : ∀ d ∈ ds, d.length ≤ b) : mkN (ds.flatMap rowF) ≤ n * b := by
  have h1 := mkN_flat rowF b ds (fun d hd => by have := h d hd; simpa [rowF, mkN, sz1] using this)
  exact Nat.le_trans h1 (Nat.mul_le_mul_right b hn)
/-- marked, read again: the field at p bears the marks from z on -/
theorem mk_at {xs : List Int} (hf : fs[p]? = some (.s xs)) (hz : z = k0 + (mkN (fs.take p) : Int)) : (mkF k0 fs)[p]? = some (.s (marks z xs.length)) := by
  rw [mkF_get fs k0 p _ hf, mk1, hz]
theorem mk_next {xs : List Int} (hf : fs[p]? = some (.s xs)) (hz : z = k0 + (mkN (fs.take p) : Int)) : z + (xs.length : Int) = k0 + (mkN (fs.take (p + 1)) : Int) := by
  have := mkN_take fs p _ hf
  simp only [sz1] at this
  rw [this, hz]; omega
end
end Go.Proofs.Ytehfglfbnjdcoaa
