/-
  Joined: Open, OpenB.
-/
import Derived.ProofKit
import Derived.Test.YtehfglfbnjdcoaaOwn
import Derived.Test.YtehfglfbnjdcoaaProg
import Derived.Test.YtehfglfbnjdcoaaDraw
namespace Go.Proofs.Ytehfglfbnjdcoaa
open Go.ChangeShapes Go.WideShapes Go.ChangeAt Go.RowKit
set_option maxRecDepth 100000
set_option maxRecDepth 100000
section
variable {H : Type} {enc : TypeId × Value → H} {P : Program} {W : World} {base : Nat}
/-- the cells of a slice of numbers -/
theorem open_RI {t e : TypeId} (ht : P.underlying t = some (.slice e)) (he : P.underlying e = some (.int .i64)) (hc1 : P.cellsOf e = 1) {fuel : Nat} {cs : List Value} {d : DataW H} {p : List MemPlace}
    (hf : DataW.trod enc P W 0 (fun _ => true) true fuel t cs = some (d, p)) (hlt : ∀ x ∈ p, x.block < W.heap.size) : ∃ A n c xs, cs = [.slice A n c] ∧ RI W W.heap.size A n c xs := by
  rcases open_ints ht he hc1 hf with ⟨hcs, _⟩ | ⟨a, len, cap, zs, hcs, _, hl, hm, hz, hx, hcell, hwz⟩
  · exact ⟨none, 0, 0, [], hcs, rfl, Nat.le_refl _, fun h => absurd h (by omega)⟩
  · simp only [if_true] at hz
    refine ⟨some a, len, cap, zs.take len, hcs, by rw [List.length_take]; omega, hl, fun hn => ?_⟩
    obtain ⟨b, off, spot⟩ := a
    have hspot : spot = none := by simpa [Addr.add] using World.cell?_spot (hcell 0 (by omega))
    subst hspot
    simp only [Prod.mk.injEq] at hx
    have hbW : b < W.heap.size := by
      have h0 : MemPlace.cell b off ∈ p := by
        rw [hx.2]
        exact MemPlace.mem_row.2 ⟨0, by omega, by simp⟩
      exact hlt _ h0
    refine ⟨b, off, rfl, hbW, fun j hj => ?_⟩
    have h1 := hcell j (by omega)
    have h2 : (⟨b, off, none⟩ : Addr).add j = ⟨b, off + j, none⟩ := by unfold Addr.add; split <;> simp_all
    rw [h2] at h1
    rw [h1]
    simp [List.getD, hj]
theorem openI {t e : TypeId} (ht : P.underlying t = some (.slice e)) (he : P.underlying e = some (.int .i64)) (hc1 : P.cellsOf e = 1) {v : Value} {d : DataW H} {p : List MemPlace}
    (hv : Value.okWide P W .any base t v) (h : DataW.Trod enc P W 0 (fun _ => true) true t v d p) (hlt : ∀ x ∈ p, x.block < W.heap.size) : ∃ A n c xs, v = .slice A n c ∧ RI W W.heap.size A n c xs := by
  obtain ⟨a0, len, cap, rfl⟩ := okWide_slice ht hv
  obtain ⟨fuel, hf⟩ := h
  obtain ⟨A, n, c, xs, hcs, hr⟩ := open_RI ht he hc1 hf hlt
  simp [Value.cells] at hcs
  obtain ⟨rfl, rfl, rfl⟩ := hcs
  exact ⟨_, _, _, _, rfl, hr⟩
end
end Go.Proofs.Ytehfglfbnjdcoaa
namespace Go.Proofs.Ytehfglfbnjdcoaa
open Go.ChangeShapes Go.WideShapes Go.ChangeAt Go.RowKit
set_option maxRecDepth 100000
section
variable {H : Type} {enc : TypeId × Value → H} {P : Program} {W : World} {base : Nat}
theorem openB {t e : TypeId} (ht : P.underlying t = some (.slice e)) (he : P.underlying e = some (.int .u8)) (hc1 : P.cellsOf e = 1) {v : Value} {d : DataW H} {p : List MemPlace}
    (hv : Value.okWide P W .any base t v) (h : DataW.Trod enc P W 0 (fun _ => true) true t v d p) (hlt : ∀ x ∈ p, x.block < W.heap.size) : ∃ A n c, v = .slice A n c ∧ ((n : Int) ≤ 1048576 → BA W W.heap.size A n c) := by
  obtain ⟨a0, len0, cap0, rfl⟩ := okWide_slice ht hv
  obtain ⟨fuel, hf⟩ := h
  refine ⟨_, _, _, rfl, fun hb => ?_⟩
  rcases open_ints ht he hc1 hf with ⟨hcs, _⟩ | ⟨a, len, cap, zs, hcs, _, hl, hm, hz, hx, hcell, hwz⟩
  · simp [Value.cells] at hcs
    obtain ⟨rfl, rfl, rfl⟩ := hcs
    exact ⟨Nat.le_refl _, by omega, [], rfl, fun j hj => absurd hj (by omega), fun h => absurd h (by omega)⟩
  · simp only [if_true] at hz
    simp [Value.cells] at hcs
    obtain ⟨rfl, rfl, rfl⟩ := hcs
    refine ⟨hl, by omega, zs.take len0, by rw [List.length_take]; omega, fun j hj => ?_, fun hn => ?_⟩
    · have h1 : (zs.take len0).getD j 0 ∈ zs := by
        have : (zs.take len0).getD j 0 = zs[j]'(by omega) := by simp [List.getD, hj, List.getElem?_eq_getElem (show j < zs.length by omega)]
        rw [this]; exact List.getElem_mem _
      obtain ⟨y, hy⟩ : ∃ y, y = (zs.take len0).getD j 0 := ⟨_, rfl⟩
      rw [← hy] at h1 ⊢
      have h2 := hwz _ h1
      simp [Lit.wf, IntKind.min, IntKind.max, IntKind.signed, IntKind.bits] at h2
      omega
    · obtain ⟨b, off, spot⟩ := a
      have hspot : spot = none := by simpa [Addr.add] using World.cell?_spot (hcell 0 (by omega))
      subst hspot
      simp only [Prod.mk.injEq] at hx
      have hbW : b < W.heap.size := by
        have h0 : MemPlace.cell b off ∈ p := by
          rw [hx.2]
          exact MemPlace.mem_row.2 ⟨0, by omega, by simp⟩
        exact hlt _ h0
      refine ⟨b, off, rfl, hbW, fun j hj => ?_⟩
      have h1 := hcell j (by omega)
      have h2 : (⟨b, off, none⟩ : Addr).add j = ⟨b, off + j, none⟩ := by unfold Addr.add; split <;> simp_all
      rw [h2] at h1
      rw [h1]
      simp [List.getD, hj]
end
theorem laws_big_yes (A : Option Addr) (n c : Nat) (w : World) (h : (1048576 : Int) < (n : Int)) : Calls Try.prog 57 #[.slice A n c] w fun e w' => e = .returned (.bool true) ∧ w = w' := by
  go_enter Try.func57, Try.ntmps57
  go_wp2
  go_ret
  exact ⟨rfl, rfl⟩
theorem laws_big_no (A : Option Addr) (n c : Nat) (w : World) (h : (n : Int) ≤ 1048576) : Calls Try.prog 57 #[.slice A n c] w fun e w' => e = .returned (.bool false) ∧ w = w' := by
  go_enter Try.func57, Try.ntmps57
  go_wp2
  go_ret
  exact ⟨rB (by simp; omega), rfl⟩
end Go.Proofs.Ytehfglfbnjdcoaa
