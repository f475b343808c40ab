/-
  Plain Lean functions for vectors.
-/
import Derived.Test.YtehfglfbnjdcoaaPlainA
import Derived.Test.YtehfglfbnjdcoaaOwn
namespace Go.Proofs.Ytehfglfbnjdcoaa
open Go.RowKit
set_option maxRecDepth 100000

def okV (xs : List Int) : Bool := decide (1 ≤ xs.length) && decide (xs.length ≤ 6) && xs.all fxOk
def pairV (xs ys : List Int) : Bool := okV xs && okV ys && decide (xs.length = ys.length)
def anyZ (g : Int → Int → Bool) (xs ys : List Int) : Bool := (List.zipWith g xs ys).any id
def vAdd (xs ys : List Int) : List Int := if pairV xs ys = true then List.zipWith fxAdd xs ys else []
def vAddS (xs ys : List Int) : Bool := pairV xs ys && anyZ fxAddS xs ys
def vSub (xs ys : List Int) : List Int := if pairV xs ys = true then List.zipWith fxSub xs ys else []
def vSubS (xs ys : List Int) : Bool := pairV xs ys && anyZ fxSubS xs ys
def okS (c : Int) (xs : List Int) : Bool := fxOk c && okV xs
def vScale (c : Int) (xs : List Int) : List Int := if okS c xs = true then xs.map (fxMul c) else []
def vScaleS (c : Int) (xs : List Int) : Bool := okS c xs && xs.any (fxMulS c)
def vRelu (xs : List Int) : List Int := if okV xs = true then xs.map fxRelu else []
def maskF (x d : Int) : Int := if 0 < x then d else 0
def vMask (xs ds : List Int) : List Int := if pairV xs ds = true then List.zipWith maskF xs ds else []
/-- the sum of products, from the left: the sum, and whether any of it was out of the range -/
def dotGo : Int → Bool → List Int → List Int → Int × Bool
  | s, b, x :: xs, y :: ys => dotGo (fxAdd s (fxMul x y)) (b || fxMulS x y || fxAddS s (fxMul x y)) xs ys
  | s, b, _, _ => (s, b)
def vDot (xs ys : List Int) : Int := if pairV xs ys = true then (dotGo 0 false xs ys).1 else 0
def vDotS (xs ys : List Int) : Bool := pairV xs ys && (dotGo 0 false xs ys).2

theorem okV_len {xs : List Int} (h : okV xs = true) : 1 ≤ xs.length ∧ xs.length ≤ 6 := by
  simp [okV] at h; exact h.1
theorem okV_all {xs : List Int} (h : okV xs = true) : xs.all fxOk = true := by
  simp only [okV, Bool.and_eq_true] at h; exact h.2
theorem pairV_len {xs ys : List Int} (h : pairV xs ys = true) : 1 ≤ xs.length ∧ xs.length ≤ 6 ∧ xs.length = ys.length := by
  simp only [pairV, Bool.and_eq_true, decide_eq_true_eq] at h
  have := okV_len h.1.1
  omega
theorem all_upto {p : Int → Bool} {xs : List Int} {n : Nat} (hn : xs.length = n) (h : ∀ j, j < n → p (xs.getD j 0) = true) : xs.all p = true := by
  rw [List.all_eq_true]
  intro x hx
  obtain ⟨j, hj, rfl⟩ := List.mem_iff_getElem.1 hx
  have := h j (by omega)
  simpa [List.getD, List.getElem?_eq_getElem hj] using this
theorem all_no {p : Int → Bool} {xs : List Int} {j : Nat} (hj : j < xs.length) (h : p (xs.getD j 0) = false) : xs.all p = false := by
  rw [List.all_eq_false]
  refine ⟨xs.getD j 0, ?_, by rw [h]; simp⟩
  simp [List.getD, List.getElem?_eq_getElem hj]
/-- one round of a loop that appends: the list up to k, and one more -/
theorem take_one {α : Type} (zs : List α) (k : Nat) (h : k < zs.length) (d : α) : zs.take (k + 1) = zs.take k ++ [zs.getD k d] := by
  rw [List.take_succ_eq_append_getElem h]
  simp [List.getD, List.getElem?_eq_getElem h]
theorem any_one (bs : List Bool) (k : Nat) (h : k < bs.length) : (bs.take (k + 1)).any id = ((bs.take k).any id || bs.getD k false) := by
  rw [take_one bs k h false]; simp
theorem zip_get {α : Type} (f : Int → Int → α) (xs ys : List Int) (k : Nat) (hx : k < xs.length) (hy : k < ys.length) (d : α) : (List.zipWith f xs ys).getD k d = f (xs.getD k 0) (ys.getD k 0) := by
  simp [List.getD, List.getElem?_zipWith, List.getElem?_eq_getElem hx, List.getElem?_eq_getElem hy]
theorem map_get {α : Type} (f : Int → α) (xs : List Int) (k : Nat) (hx : k < xs.length) (d : α) : (xs.map f).getD k d = f (xs.getD k 0) := by
  simp [List.getD, List.getElem?_eq_getElem hx]
theorem zip_len {α : Type} (f : Int → Int → α) {xs ys : List Int} (h : xs.length = ys.length) : (List.zipWith f xs ys).length = xs.length := by simp [h]
theorem dot_one : ∀ (xs ys : List Int) (k : Nat) (s : Int) (b : Bool), k < xs.length → k < ys.length →
    dotGo s b (xs.take (k + 1)) (ys.take (k + 1)) = (fxAdd (dotGo s b (xs.take k) (ys.take k)).1 (fxMul (xs.getD k 0) (ys.getD k 0)),
      (dotGo s b (xs.take k) (ys.take k)).2 || fxMulS (xs.getD k 0) (ys.getD k 0) || fxAddS (dotGo s b (xs.take k) (ys.take k)).1 (fxMul (xs.getD k 0) (ys.getD k 0)))
  | x :: xs, y :: ys, 0, s, b, _, _ => by simp [dotGo]
  | x :: xs, y :: ys, k + 1, s, b, hx, hy => by
    simp only [List.take_succ_cons, dotGo, List.getD_cons_succ]
    exact dot_one xs ys k _ _ (by simpa using hx) (by simpa using hy)
  | [], _, _, _, _, hx, _ => absurd hx (by simp)
  | _ :: _, [], _, _, _, _, hy => absurd hy (by simp)
theorem vAdd_len (xs ys : List Int) : (vAdd xs ys).length ≤ 6 := by
  rw [vAdd]; split
  · have := pairV_len (by assumption); rw [List.length_zipWith]; omega
  · simp
theorem vSub_len (xs ys : List Int) : (vSub xs ys).length ≤ 6 := by
  rw [vSub]; split
  · have := pairV_len (by assumption); rw [List.length_zipWith]; omega
  · simp
theorem vMask_len (xs ys : List Int) : (vMask xs ys).length ≤ 6 := by
  rw [vMask]; split
  · have := pairV_len (by assumption); rw [List.length_zipWith]; omega
  · simp
theorem vScale_len (c : Int) (xs : List Int) : (vScale c xs).length ≤ 6 := by
  rw [vScale]; split
  · rename_i h
    have := okV_len (by simp only [okS, Bool.and_eq_true] at h; exact h.2)
    rw [List.length_map]; omega
  · simp
theorem vRelu_len (xs : List Int) : (vRelu xs).length ≤ 6 := by
  rw [vRelu]; split
  · have := okV_len (by assumption); rw [List.length_map]; omega
  · simp
end Go.Proofs.Ytehfglfbnjdcoaa
