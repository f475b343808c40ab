/-
  Plain Lean functions for matrices turned about, and for outer products.
-/
import Derived.Test.YtehfglfbnjdcoaaPlainM
namespace Go.Proofs.Ytehfglfbnjdcoaa
open Go.RowKit
set_option maxRecDepth 100000

/-- column k -/
def colK (R C : Nat) (xs : List Int) (k : Nat) : List Int := (List.range R).map fun i => xs.getD (i * C + k) 0
def tposeL (R C : Nat) (xs : List Int) : List Int := (List.range C).flatMap (colK R C xs)
theorem colK_len (R C : Nat) (xs : List Int) (k : Nat) : (colK R C xs k).length = R := by simp [colK]
theorem colK_get {R C : Nat} {xs : List Int} {k i : Nat} (hi : i < R) : (colK R C xs k).getD i 0 = xs.getD (i * C + k) 0 := range_get _ _ _ hi _
theorem flatI_len {α : Type} (g : α → List Int) (m : Nat) (hm : ∀ a, (g a).length = m) (ds : List α) : (ds.flatMap g).length = ds.length * m := by
  induction ds with
  | nil => simp
  | cons a ds ih => rw [List.flatMap_cons, List.length_append, hm, ih, List.length_cons, Nat.succ_mul, Nat.add_comm]
theorem flatI_get {α : Type} (g : α → List Int) (m : Nat) (hm : ∀ a, (g a).length = m) : ∀ (ds : List α) (j i : Nat) (d : α), ds[j]? = some d → i < m → (ds.flatMap g).getD (j * m + i) 0 = (g d).getD i 0
  | a :: ds, 0, i, d, h, hi => by
    simp at h; subst h
    simp only [List.getD]
    rw [List.flatMap_cons, Nat.zero_mul, Nat.zero_add, List.getElem?_append_left (by rw [hm]; exact hi)]
  | a :: ds, j + 1, i, d, h, hi => by
    have ih := flatI_get g m hm ds j i d (by simpa using h) hi
    simp only [List.getD] at ih ⊢
    rw [List.flatMap_cons, List.getElem?_append_right (by rw [hm, Nat.succ_mul]; omega), hm, show (j + 1) * m + i - m = j * m + i by rw [Nat.succ_mul]; omega]
    exact ih
  | [], _, _, _, h, _ => by simp at h
theorem tposeL_len (R C : Nat) (xs : List Int) : (tposeL R C xs).length = C * R := by
  rw [tposeL, flatI_len _ R (colK_len R C xs)]; simp
theorem tposeL_get {R C : Nat} {xs : List Int} {k i : Nat} (hk : k < C) (hi : i < R) : (tposeL R C xs).getD (k * R + i) 0 = xs.getD (i * C + k) 0 := by
  rw [tposeL, flatI_get _ R (colK_len R C xs) _ k i k (by simp [hk]) hi, colK_get hi]
theorem ext_getD {xs ys : List Int} {n : Nat} (hx : xs.length = n) (hy : ys.length = n) (h : ∀ j, j < n → xs.getD j 0 = ys.getD j 0) : xs = ys := by
  apply List.ext_getElem (by omega)
  intro j h1 h2
  have := h j (by omega)
  simpa [List.getD, List.getElem?_eq_getElem h1, List.getElem?_eq_getElem h2] using this
theorem rowK_tpose {R C : Nat} {xs : List Int} {k : Nat} (hk : k < C) : rowK R (tposeL R C xs) k = colK R C xs k := by
  refine ext_getD (rowK_len (R := C) (tposeL_len R C xs) hk) (colK_len R C xs k) fun j hj => ?_
  rw [rowK_get j hj, tposeL_get hk hj, colK_get hj]
theorem idx_lt {R C i k : Nat} (hi : i < R) (hk : k < C) : i * C + k < R * C := by
  have h1 : (i + 1) * C ≤ R * C := Nat.mul_le_mul_right C hi
  rw [Nat.succ_mul] at h1
  omega
theorem all_fx_get {xs : List Int} (h : xs.all fxOk = true) (j : Nat) : fxOk (xs.getD j 0) = true := by
  by_cases hj : j < xs.length
  · rw [List.all_eq_true] at h
    have := h xs[j] (List.getElem_mem hj)
    simpa [List.getD, List.getElem?_eq_getElem hj] using this
  · rw [List.getD, List.getElem?_eq_none (by omega)]; rfl
theorem tpose_all {R C : Nat} {xs : List Int} (h : xs.all fxOk = true) : (tposeL R C xs).all fxOk = true := by
  rw [List.all_eq_true]
  intro x hx
  rw [tposeL, List.mem_flatMap] at hx
  obtain ⟨k, _, hk⟩ := hx
  rw [colK, List.mem_map] at hk
  obtain ⟨i, _, rfl⟩ := hk
  exact all_fx_get h _
theorem okM_tpose {R C : Nat} {xs : List Int} (h : okM R C xs = true) : okM C R (tposeL R C xs) = true := by
  obtain ⟨R', C', hr, hc, h1, h2, h3, h4, h5, h6⟩ := okM_spec h
  obtain rfl : R = R' := by omega
  obtain rfl : C = C' := by omega
  simp only [okM, Bool.and_eq_true, decide_eq_true_eq]
  refine ⟨⟨⟨⟨⟨by omega, by omega⟩, by omega⟩, by omega⟩, ?_⟩, tpose_all h6⟩
  rw [tposeL_len, Int.natCast_mul]
theorem tpose_tpose {R C : Nat} {xs : List Int} (h : xs.length = R * C) : tposeL C R (tposeL R C xs) = xs := by
  refine ext_getD (n := R * C) (tposeL_len C R _) h fun j hj => ?_
  have hC : 0 < C := by
    rcases Nat.eq_zero_or_pos C with h0 | h0
    · subst h0; simp at hj
    · exact h0
  have h1 : j = j / C * C + j % C := (Nat.div_add_mod' j C).symm
  have h2 : j % C < C := Nat.mod_lt _ hC
  have h3 : j / C < R := by rw [Nat.div_lt_iff_lt_mul hC]; exact hj
  rw [h1, tposeL_get h3 h2, tposeL_get h2 h3]
/-- what is turned about -/
def mTr (r c : Int) (xs : List Int) : List Int := if okM r c xs = true then tposeL r.toNat c.toNat xs else []
def mTrR (r c : Int) (xs : List Int) : Int := if okM r c xs = true then c else 0
def mTrC (r c : Int) (xs : List Int) : Int := if okM r c xs = true then r else 0
theorem mTr_len (r c : Int) (xs : List Int) : (mTr r c xs).length ≤ 36 := by
  rw [mTr]; split
  · rename_i h
    obtain ⟨R, C, rfl, rfl, h1, h2, h3, h4, h5, _⟩ := okM_spec h
    rw [tposeL_len]; exact Nat.mul_le_mul (by simpa using h4) (by simpa using h2)
  · simp
def mbOk (r c : Int) (xs ys : List Int) : Bool := okM r c xs && okV ys && decide ((ys.length : Int) = r)
def mBack (r c : Int) (xs ys : List Int) : List Int := if mbOk r c xs ys = true then mvRow r.toNat (tposeL r.toNat c.toNat xs) ys c.toNat else []
def mBackS (r c : Int) (xs ys : List Int) : Bool := mbOk r c xs ys && (mvRowS r.toNat (tposeL r.toNat c.toNat xs) ys c.toNat).any id
theorem mBack_vec (r c : Int) (xs ys : List Int) (h : mbOk r c xs ys = true) : mVec c r (mTr r c xs) ys = mBack r c xs ys ∧ mVecS c r (mTr r c xs) ys = mBackS r c xs ys := by
  have h' := h
  simp only [mbOk, Bool.and_eq_true, decide_eq_true_eq] at h'
  obtain ⟨⟨ho, hv⟩, hn⟩ := h'
  obtain ⟨R, C, rfl, rfl, h1, h2, h3, h4, h5, h6⟩ := okM_spec ho
  have hm : mvOk C R (mTr R C xs) ys = true := by
    rw [mTr, if_pos ho, mvOk]
    simp only [Int.toNat_natCast, Bool.and_eq_true, decide_eq_true_eq]
    exact ⟨⟨okM_tpose ho, hv⟩, hn⟩
  rw [mVec, if_pos hm, mVecS, hm, mBack, if_pos h, mBackS, h, mTr, if_pos ho]
  exact ⟨rfl, rfl⟩
theorem mBack_len (r c : Int) (xs ys : List Int) : (mBack r c xs ys).length ≤ 6 := by
  rw [mBack]; split
  · rename_i h
    simp only [mbOk, Bool.and_eq_true] at h
    obtain ⟨R, C, rfl, rfl, h1, h2, h3, h4, h5, h6⟩ := okM_spec h.1.1
    simp [mvRow]; omega
  · simp
theorem mvRow_tpose (R C : Nat) (xs ys : List Int) : mvRow R (tposeL R C xs) ys C = (List.range C).map fun k => vDot (colK R C xs k) ys := by
  rw [mvRow]
  refine List.map_congr_left fun k hk => ?_
  rw [rowK_tpose (by simpa using hk)]
theorem mvRowS_tpose (R C : Nat) (xs ys : List Int) : mvRowS R (tposeL R C xs) ys C = (List.range C).map fun k => vDotS (colK R C xs k) ys := by
  rw [mvRowS]
  refine List.map_congr_left fun k hk => ?_
  rw [rowK_tpose (by simpa using hk)]
theorem flatG_len {α β : Type} (g : α → List β) (m : Nat) (hm : ∀ a, (g a).length = m) (ds : List α) : (ds.flatMap g).length = ds.length * m := by
  induction ds with
  | nil => simp
  | cons a ds ih => rw [List.flatMap_cons, List.length_append, hm, ih, List.length_cons, Nat.succ_mul, Nat.add_comm]
theorem flatG_get {α β : Type} (g : α → List β) (m : Nat) (hm : ∀ a, (g a).length = m) : ∀ (ds : List α) (j i : Nat) (d : α), ds[j]? = some d → i < m → (ds.flatMap g)[j * m + i]? = (g d)[i]?
  | a :: ds, 0, i, d, h, hi => by
    simp at h; subst h
    rw [List.flatMap_cons, Nat.zero_mul, Nat.zero_add, List.getElem?_append_left (by rw [hm]; exact hi)]
  | a :: ds, j + 1, i, d, h, hi => by
    have ih := flatG_get g m hm ds j i d (by simpa using h) hi
    rw [List.flatMap_cons, List.getElem?_append_right (by rw [hm, Nat.succ_mul]; omega), hm, show (j + 1) * m + i - m = j * m + i by rw [Nat.succ_mul]; omega]
    exact ih
  | [], _, _, _, h, _ => by simp at h
theorem take_snocG {β : Type} {zs : List β} {p : Nat} {z : β} (h : zs[p]? = some z) : zs.take (p + 1) = zs.take p ++ [z] := by
  have hp := (List.getElem?_eq_some_iff.1 h).1
  rw [List.take_succ_eq_append_getElem hp]
  rw [List.getElem?_eq_getElem hp] at h
  simp at h
  rw [h]
theorem getD_get {xs : List Int} {j : Nat} (h : j < xs.length) : xs[j]? = some (xs.getD j 0) := by
  simp [List.getD, List.getElem?_eq_getElem h]
/-! outer products -/
def outOk (ds xs : List Int) : Bool := okV ds && okV xs
def outL (ds xs : List Int) : List Int := ds.flatMap fun a => xs.map (fxMul a)
def outSL (ds xs : List Int) : List Bool := ds.flatMap fun a => xs.map (fxMulS a)
def mOut (ds xs : List Int) : List Int := if outOk ds xs = true then outL ds xs else []
def mOutS (ds xs : List Int) : Bool := outOk ds xs && (outSL ds xs).any id
def mOutR (ds xs : List Int) : Int := if outOk ds xs = true then ds.length else 0
def mOutC (ds xs : List Int) : Int := if outOk ds xs = true then xs.length else 0
theorem outL_get {ds xs : List Int} {i k : Nat} (hi : i < ds.length) (hk : k < xs.length) : (outL ds xs)[i * xs.length + k]? = some (fxMul (ds.getD i 0) (xs.getD k 0)) := by
  rw [outL, flatG_get _ xs.length (fun a => by simp) ds i k _ (getD_get hi) hk, List.getElem?_map, getD_get hk]; rfl
theorem outSL_get {ds xs : List Int} {i k : Nat} (hi : i < ds.length) (hk : k < xs.length) : (outSL ds xs)[i * xs.length + k]? = some (fxMulS (ds.getD i 0) (xs.getD k 0)) := by
  rw [outSL, flatG_get _ xs.length (fun a => by simp) ds i k _ (getD_get hi) hk, List.getElem?_map, getD_get hk]; rfl
theorem outSL_len (ds xs : List Int) : (outSL ds xs).length = ds.length * xs.length := flatG_len _ _ (fun a => by simp) ds
theorem outL_len (ds xs : List Int) : (outL ds xs).length = ds.length * xs.length := flatI_len _ _ (fun a => by simp) ds
theorem mOut_len (ds xs : List Int) : (mOut ds xs).length ≤ 36 := by
  rw [mOut]; split
  · rename_i h
    simp only [outOk, Bool.and_eq_true] at h
    rw [outL_len]
    exact Nat.mul_le_mul (okV_len h.1).2 (okV_len h.2).2
  · simp
end Go.Proofs.Ytehfglfbnjdcoaa
