/-
  Joined: PlainO, PlainT, PlainF.
-/
import Derived.Test.YtehfglfbnjdcoaaOp
import Derived.Test.YtehfglfbnjdcoaaRec
import Derived.Test.YtehfglfbnjdcoaaPlainM
import Derived.Test.YtehfglfbnjdcoaaLoss
namespace Go.Proofs.Ytehfglfbnjdcoaa
open Go.RowKit
set_option maxRecDepth 100000
set_option maxRecDepth 100000

def okOd (d : OpD) : Bool := okO d.k d.i d.o d.p
/-- operation j is right, and fits behind the one ahead of it -/
def okAt (ds : List OpD) (j : Nat) : Bool :=
  match ds[j]? with
  | none => false
  | some d => okOd d && (match j with
    | 0 => true
    | i + 1 => match ds[i]? with
      | none => false
      | some p => decide (p.o = d.i))
def okMd (ds : List OpD) : Bool := decide (1 ≤ ds.length) && decide (ds.length ≤ 8) && (List.range ds.length).all (okAt ds)
theorem okMd_yes {ds : List OpD} {n : Nat} (hl : ds.length = n) (h1 : 1 ≤ n) (h2 : n ≤ 8) (h : ∀ j, j < n → okAt ds j = true) : okMd ds = true := by
  rw [okMd, hl, decide_eq_true h1, decide_eq_true h2]
  simpa using h
theorem okMd_no {ds : List OpD} {n j : Nat} (hl : ds.length = n) (hj : j < n) (h : okAt ds j = false) : okMd ds = false := by
  rw [okMd, Bool.and_eq_false_iff]
  right
  rw [List.all_eq_false]
  exact ⟨j, by simpa [hl] using hj, by simp [h]⟩
theorem okMd_lo {ds : List OpD} (h : ds.length < 1) : okMd ds = false := by rw [okMd, decide_eq_false (by omega)]; rfl
theorem okMd_hi {ds : List OpD} (h : 8 < ds.length) : okMd ds = false := by rw [okMd, decide_eq_false (show ¬ ds.length ≤ 8 by omega), Bool.and_false]; rfl
theorem okMd_len {ds : List OpD} (h : okMd ds = true) : 1 ≤ ds.length ∧ ds.length ≤ 8 := by
  rw [okMd, Bool.and_eq_true, Bool.and_eq_true, decide_eq_true_eq, decide_eq_true_eq] at h
  exact h.1
theorem okMd_at {ds : List OpD} (h : okMd ds = true) {j : Nat} (hj : j < ds.length) : okAt ds j = true := by
  rw [okMd, Bool.and_eq_true, List.all_eq_true] at h
  exact h.2 j (by simpa using hj)
theorem okMd_op {ds : List OpD} (h : okMd ds = true) {j : Nat} {d : OpD} (hd : ds[j]? = some d) : okOd d = true := by
  have := okMd_at h (List.getElem?_eq_some_iff.1 hd).1
  rw [okAt, hd] at this
  simp only [Bool.and_eq_true] at this
  exact this.1
theorem okAt_bad {ds : List OpD} {j : Nat} {d : OpD} (hd : ds[j]? = some d) (h : okOd d = false) : okAt ds j = false := by
  rw [okAt, hd]; simp [h]
theorem okAt_zero {ds : List OpD} {d : OpD} (hd : ds[0]? = some d) : okAt ds 0 = okOd d := by
  rw [okAt, hd]; simp
theorem okAt_succ {ds : List OpD} {j : Nat} {d p : OpD} (hd : ds[j + 1]? = some d) (hp : ds[j]? = some p) : okAt ds (j + 1) = (okOd d && decide (p.o = d.i)) := by
  rw [okAt, hd]; simp [hp]
def mIn (ds : List OpD) : Int := if okMd ds = true then (match ds.head? with | none => 0 | some d => d.i) else 0
def mOutN (ds : List OpD) : Int := if okMd ds = true then (match ds.getLast? with | none => 0 | some d => d.o) else 0
def sumN (ls : List Nat) : Nat := ls.foldr (· + ·) 0
theorem sumN_take : ∀ (ls : List Nat) (j l : Nat), ls[j]? = some l → sumN (ls.take (j + 1)) = sumN (ls.take j) + l
  | a :: ls, 0, l, h => by simp at h; subst h; simp [sumN]
  | a :: ls, j + 1, l, h => by
    have ih := sumN_take ls j l (by simpa using h)
    simp only [List.take_succ_cons, sumN, List.foldr_cons] at ih ⊢
    omega
  | [], _, _, h => by simp at h
theorem sumN_le : ∀ (ls : List Nat) (b : Nat), (∀ (j l : Nat), ls[j]? = some l → l ≤ b) → sumN ls ≤ ls.length * b
  | [], b, _ => by simp [sumN]
  | a :: ls, b, h => by
    have h1 := sumN_le ls b (fun j l hj => h (j + 1) l (by simpa using hj))
    have h2 := h 0 a (by simp)
    rw [List.length_cons, Nat.succ_mul]
    simp only [sumN, List.foldr_cons] at h1 ⊢
    omega
def mWords (ds : List OpD) : Int := if okMd ds = true then (sumN (ds.map fun d => d.p.length) : Nat) else 0
theorem okOd_len {d : OpD} (h : okOd d = true) : d.p.length ≤ 36 := by
  rw [okOd, okO, Bool.and_eq_true, decide_eq_true_eq] at h
  have := opSize_bd d.k d.i d.o
  omega
end Go.Proofs.Ytehfglfbnjdcoaa
namespace Go.Proofs.Ytehfglfbnjdcoaa
open Go.RowKit
set_option maxRecDepth 100000

/-- column k -/
def colK (R C : Nat) (xs : List Int) (k : Nat) : List Int := (List.range R).map fun i => xs.getD (i * C + k) 0
def tposeL (R C : Nat) (xs : List Int) : List Int := (List.range C).flatMap (colK R C xs)
theorem colK_len (R C : Nat) (xs : List Int) (k : Nat) : (colK R C xs k).length = R := by simp [colK]
theorem colK_get {R C : Nat} {xs : List Int} {k i : Nat} (hi : i < R) : (colK R C xs k).getD i 0 = xs.getD (i * C + k) 0 := range_get _ _ _ hi _
theorem flatI_len {α : Type} (g : α → List Int) (m : Nat) (hm : ∀ a, (g a).length = m) (ds : List α) : (ds.flatMap g).length = ds.length * m := by
  induction ds with
  | nil => simp
  | cons a ds ih => rw [List.flatMap_cons, List.length_append, hm, ih, List.length_cons, Nat.succ_mul, Nat.add_comm]
theorem flatI_get {α : Type} (g : α → List Int) (m : Nat) (hm : ∀ a, (g a).length = m) : ∀ (ds : List α) (j i : Nat) (d : α), ds[j]? = some d → i < m → (ds.flatMap g).getD (j * m + i) 0 = (g d).getD i 0
  | a :: ds, 0, i, d, h, hi => by
    simp at h; subst h
    simp only [List.getD]
    rw [List.flatMap_cons, Nat.zero_mul, Nat.zero_add, List.getElem?_append_left (by rw [hm]; exact hi)]
  | a :: ds, j + 1, i, d, h, hi => by
    have ih := flatI_get g m hm ds j i d (by simpa using h) hi
    simp only [List.getD] at ih ⊢
    rw [List.flatMap_cons, List.getElem?_append_right (by rw [hm, Nat.succ_mul]; omega), hm, show (j + 1) * m + i - m = j * m + i by rw [Nat.succ_mul]; omega]
    exact ih
  | [], _, _, _, h, _ => by simp at h
theorem tposeL_len (R C : Nat) (xs : List Int) : (tposeL R C xs).length = C * R := by
  rw [tposeL, flatI_len _ R (colK_len R C xs)]; simp
theorem tposeL_get {R C : Nat} {xs : List Int} {k i : Nat} (hk : k < C) (hi : i < R) : (tposeL R C xs).getD (k * R + i) 0 = xs.getD (i * C + k) 0 := by
  rw [tposeL, flatI_get _ R (colK_len R C xs) _ k i k (by simp [hk]) hi, colK_get hi]
theorem ext_getD {xs ys : List Int} {n : Nat} (hx : xs.length = n) (hy : ys.length = n) (h : ∀ j, j < n → xs.getD j 0 = ys.getD j 0) : xs = ys := by
  apply List.ext_getElem (by omega)
  intro j h1 h2
  have := h j (by omega)
  simpa [List.getD, List.getElem?_eq_getElem h1, List.getElem?_eq_getElem h2] using this
theorem rowK_tpose {R C : Nat} {xs : List Int} {k : Nat} (hk : k < C) : rowK R (tposeL R C xs) k = colK R C xs k := by
  refine ext_getD (rowK_len (R := C) (tposeL_len R C xs) hk) (colK_len R C xs k) fun j hj => ?_
  rw [rowK_get j hj, tposeL_get hk hj, colK_get hj]
theorem idx_lt {R C i k : Nat} (hi : i < R) (hk : k < C) : i * C + k < R * C := by
  have h1 : (i + 1) * C ≤ R * C := Nat.mul_le_mul_right C hi
  rw [Nat.succ_mul] at h1
  omega
theorem all_fx_get {xs : List Int} (h : xs.all fxOk = true) (j : Nat) : fxOk (xs.getD j 0) = true := by
  by_cases hj : j < xs.length
  · rw [List.all_eq_true] at h
    have := h xs[j] (List.getElem_mem hj)
    simpa [List.getD, List.getElem?_eq_getElem hj] using this
  · rw [List.getD, List.getElem?_eq_none (by omega)]; rfl
theorem tpose_all {R C : Nat} {xs : List Int} (h : xs.all fxOk = true) : (tposeL R C xs).all fxOk = true := by
  rw [List.all_eq_true]
  intro x hx
  rw [tposeL, List.mem_flatMap] at hx
  obtain ⟨k, _, hk⟩ := hx
  rw [colK, List.mem_map] at hk
  obtain ⟨i, _, rfl⟩ := hk
  exact all_fx_get h _
theorem okM_tpose {R C : Nat} {xs : List Int} (h : okM R C xs = true) : okM C R (tposeL R C xs) = true := by
  obtain ⟨R', C', hr, hc, h1, h2, h3, h4, h5, h6⟩ := okM_spec h
  obtain rfl : R = R' := by omega
  obtain rfl : C = C' := by omega
  simp only [okM, Bool.and_eq_true, decide_eq_true_eq]
  refine ⟨⟨⟨⟨⟨by omega, by omega⟩, by omega⟩, by omega⟩, ?_⟩, tpose_all h6⟩
  rw [tposeL_len, Int.natCast_mul]
theorem tpose_tpose {R C : Nat} {xs : List Int} (h : xs.length = R * C) : tposeL C R (tposeL R C xs) = xs := by
  refine ext_getD (n := R * C) (tposeL_len C R _) h fun j hj => ?_
  have hC : 0 < C := by
    rcases Nat.eq_zero_or_pos C with h0 | h0
    · subst h0; simp at hj
    · exact h0
  have h1 : j = j / C * C + j % C := (Nat.div_add_mod' j C).symm
  have h2 : j % C < C := Nat.mod_lt _ hC
  have h3 : j / C < R := by rw [Nat.div_lt_iff_lt_mul hC]; exact hj
  rw [h1, tposeL_get h3 h2, tposeL_get h2 h3]
/-- what is turned about -/
def mTr (r c : Int) (xs : List Int) : List Int := if okM r c xs = true then tposeL r.toNat c.toNat xs else []
def mTrR (r c : Int) (xs : List Int) : Int := if okM r c xs = true then c else 0
def mTrC (r c : Int) (xs : List Int) : Int := if okM r c xs = true then r else 0
theorem mTr_len (r c : Int) (xs : List Int) : (mTr r c xs).length ≤ 36 := by
  rw [mTr]; split
  · rename_i h
    obtain ⟨R, C, rfl, rfl, h1, h2, h3, h4, h5, _⟩ := okM_spec h
    rw [tposeL_len]; exact Nat.mul_le_mul (by simpa using h4) (by simpa using h2)
  · simp
def mbOk (r c : Int) (xs ys : List Int) : Bool := okM r c xs && okV ys && decide ((ys.length : Int) = r)
def mBack (r c : Int) (xs ys : List Int) : List Int := if mbOk r c xs ys = true then mvRow r.toNat (tposeL r.toNat c.toNat xs) ys c.toNat else []
def mBackS (r c : Int) (xs ys : List Int) : Bool := mbOk r c xs ys && (mvRowS r.toNat (tposeL r.toNat c.toNat xs) ys c.toNat).any id
theorem mBack_vec (r c : Int) (xs ys : List Int) (h : mbOk r c xs ys = true) : mVec c r (mTr r c xs) ys = mBack r c xs ys ∧ mVecS c r (mTr r c xs) ys = mBackS r c xs ys := by
  have h' := h
  simp only [mbOk, Bool.and_eq_true, decide_eq_true_eq] at h'
  obtain ⟨⟨ho, hv⟩, hn⟩ := h'
  obtain ⟨R, C, rfl, rfl, h1, h2, h3, h4, h5, h6⟩ := okM_spec ho
  have hm : mvOk C R (mTr R C xs) ys = true := by
    rw [mTr, if_pos ho, mvOk]
    simp only [Int.toNat_natCast, Bool.and_eq_true, decide_eq_true_eq]
    exact ⟨⟨okM_tpose ho, hv⟩, hn⟩
  rw [mVec, if_pos hm, mVecS, hm, mBack, if_pos h, mBackS, h, mTr, if_pos ho]
  exact ⟨rfl, rfl⟩
theorem mBack_len (r c : Int) (xs ys : List Int) : (mBack r c xs ys).length ≤ 6 := by
  rw [mBack]; split
  · rename_i h
    simp only [mbOk, Bool.and_eq_true] at h
    obtain ⟨R, C, rfl, rfl, h1, h2, h3, h4, h5, h6⟩ := okM_spec h.1.1
    simp [mvRow]; omega
  · simp
theorem mvRow_tpose (R C : Nat) (xs ys : List Int) : mvRow R (tposeL R C xs) ys C = (List.range C).map fun k => vDot (colK R C xs k) ys := by
  rw [mvRow]
  refine List.map_congr_left fun k hk => ?_
  rw [rowK_tpose (by simpa using hk)]
theorem mvRowS_tpose (R C : Nat) (xs ys : List Int) : mvRowS R (tposeL R C xs) ys C = (List.range C).map fun k => vDotS (colK R C xs k) ys := by
  rw [mvRowS]
  refine List.map_congr_left fun k hk => ?_
  rw [rowK_tpose (by simpa using hk)]
theorem flatG_len {α β : Type} (g : α → List β) (m : Nat) (hm : ∀ a, (g a).length = m) (ds : List α) : (ds.flatMap g).length = ds.length * m := by
  induction ds with
  | nil => simp
  | cons a ds ih => rw [List.flatMap_cons, List.length_append, hm, ih, List.length_cons, Nat.succ_mul, Nat.add_comm]
theorem flatG_get {α β : Type} (g : α → List β) (m : Nat) (hm : ∀ a, (g a).length = m) : ∀ (ds : List α) (j i : Nat) (d : α), ds[j]? = some d → i < m → (ds.flatMap g)[j * m + i]? = (g d)[i]?
  | a :: ds, 0, i, d, h, hi => by
    simp at h; subst h
    rw [List.flatMap_cons, Nat.zero_mul, Nat.zero_add, List.getElem?_append_left (by rw [hm]; exact hi)]
  | a :: ds, j + 1, i, d, h, hi => by
    have ih := flatG_get g m hm ds j i d (by simpa using h) hi
    rw [List.flatMap_cons, List.getElem?_append_right (by rw [hm, Nat.succ_mul]; omega), hm, show (j + 1) * m + i - m = j * m + i by rw [Nat.succ_mul]; omega]
    exact ih
  | [], _, _, _, h, _ => by simp at h
theorem take_snocG {β : Type} {zs : List β} {p : Nat} {z : β} (h : zs[p]? = some z) : zs.take (p + 1) = zs.take p ++ [z] := by
  have hp := (List.getElem?_eq_some_iff.1 h).1
  rw [List.take_succ_eq_append_getElem hp]
  rw [List.getElem?_eq_getElem hp] at h
  simp at h
  rw [h]
theorem getD_get {xs : List Int} {j : Nat} (h : j < xs.length) : xs[j]? = some (xs.getD j 0) := by
  simp [List.getD, List.getElem?_eq_getElem h]
/-! outer products -/
def outOk (ds xs : List Int) : Bool := okV ds && okV xs
def outL (ds xs : List Int) : List Int := ds.flatMap fun a => xs.map (fxMul a)
def outSL (ds xs : List Int) : List Bool := ds.flatMap fun a => xs.map (fxMulS a)
def mOut (ds xs : List Int) : List Int := if outOk ds xs = true then outL ds xs else []
def mOutS (ds xs : List Int) : Bool := outOk ds xs && (outSL ds xs).any id
def mOutR (ds xs : List Int) : Int := if outOk ds xs = true then ds.length else 0
def mOutC (ds xs : List Int) : Int := if outOk ds xs = true then xs.length else 0
theorem outL_get {ds xs : List Int} {i k : Nat} (hi : i < ds.length) (hk : k < xs.length) : (outL ds xs)[i * xs.length + k]? = some (fxMul (ds.getD i 0) (xs.getD k 0)) := by
  rw [outL, flatG_get _ xs.length (fun a => by simp) ds i k _ (getD_get hi) hk, List.getElem?_map, getD_get hk]; rfl
theorem outSL_get {ds xs : List Int} {i k : Nat} (hi : i < ds.length) (hk : k < xs.length) : (outSL ds xs)[i * xs.length + k]? = some (fxMulS (ds.getD i 0) (xs.getD k 0)) := by
  rw [outSL, flatG_get _ xs.length (fun a => by simp) ds i k _ (getD_get hi) hk, List.getElem?_map, getD_get hk]; rfl
theorem outSL_len (ds xs : List Int) : (outSL ds xs).length = ds.length * xs.length := flatG_len _ _ (fun a => by simp) ds
theorem outL_len (ds xs : List Int) : (outL ds xs).length = ds.length * xs.length := flatI_len _ _ (fun a => by simp) ds
theorem mOut_len (ds xs : List Int) : (mOut ds xs).length ≤ 36 := by
  rw [mOut]; split
  · rename_i h
    simp only [outOk, Bool.and_eq_true] at h
    rw [outL_len]
    exact Nat.mul_le_mul (okV_len h.1).2 (okV_len h.2).2
  · simp
end Go.Proofs.Ytehfglfbnjdcoaa
namespace Go.Proofs.Ytehfglfbnjdcoaa
open Go.RowKit
set_option maxRecDepth 100000

def fwOk (d : OpD) (xs : List Int) : Bool := okOd d && okV xs && decide ((xs.length : Int) = d.i)
def fwV (d : OpD) (xs : List Int) : List Int :=
  if d.k = 1 then mVec d.o d.i d.p xs else if d.k = 2 then vAdd xs d.p else if d.k = 3 then vRelu xs else if d.k = 4 then vScale (d.p.getD 0 0) xs else vAdd xs (mVec d.o d.i d.p xs)
def fwB (d : OpD) (xs : List Int) : Bool :=
  if d.k = 1 then mVecS d.o d.i d.p xs else if d.k = 2 then vAddS xs d.p else if d.k = 3 then false else if d.k = 4 then vScaleS (d.p.getD 0 0) xs else mVecS d.o d.i d.p xs || vAddS xs (mVec d.o d.i d.p xs)
def fw (d : OpD) (xs : List Int) : List Int := if fwOk d xs = true then fwV d xs else []
def fwS (d : OpD) (xs : List Int) : Bool := fwOk d xs && fwB d xs
def bwOk (d : OpD) (xs ds : List Int) : Bool := fwOk d xs && okV ds && decide ((ds.length : Int) = d.o)
def bwV (d : OpD) (xs ds : List Int) : List Int :=
  if d.k = 1 then mBack d.o d.i d.p ds else if d.k = 2 then ds else if d.k = 3 then vMask xs ds else if d.k = 4 then vScale (d.p.getD 0 0) ds else vAdd ds (mBack d.o d.i d.p ds)
def bwGV (d : OpD) (xs ds : List Int) : List Int :=
  if d.k = 1 then mOut ds xs else if d.k = 2 then ds else if d.k = 3 then [] else if d.k = 4 then [vDot ds xs] else mOut ds xs
def bwB (d : OpD) (xs ds : List Int) : Bool :=
  if d.k = 1 then mBackS d.o d.i d.p ds || mOutS ds xs else if d.k = 2 then false else if d.k = 3 then false else if d.k = 4 then vScaleS (d.p.getD 0 0) ds || vDotS ds xs else mBackS d.o d.i d.p ds || vAddS ds (mBack d.o d.i d.p ds) || mOutS ds xs
def bw (d : OpD) (xs ds : List Int) : List Int := if bwOk d xs ds = true then bwV d xs ds else []
def bwG (d : OpD) (xs ds : List Int) : List Int := if bwOk d xs ds = true then bwGV d xs ds else []
def bwS (d : OpD) (xs ds : List Int) : Bool := bwOk d xs ds && bwB d xs ds

/-- what a right operation is -/
theorem okOd_spec {d : OpD} (h : okOd d = true) : 1 ≤ d.k ∧ d.k ≤ 5 ∧ 1 ≤ d.i ∧ d.i ≤ 6 ∧ 1 ≤ d.o ∧ d.o ≤ 6 ∧ (d.k ≠ 1 → d.i = d.o) ∧ (d.p.length : Int) = opSize d.k d.i d.o ∧ d.p.all fxOk = true := by
  simp only [okOd, okO, Bool.and_eq_true, decide_eq_true_eq] at h
  obtain ⟨⟨h1, h2, h3, h4, h5, h6, h7, h8⟩, h9⟩ := h
  exact ⟨h1, h2, h3, h4, h5, h6, fun hk => h7.resolve_left hk, h8, h9⟩
theorem fwOk_spec {d : OpD} {xs : List Int} (h : fwOk d xs = true) : okOd d = true ∧ okV xs = true ∧ (xs.length : Int) = d.i := by
  simp only [fwOk, Bool.and_eq_true, decide_eq_true_eq] at h
  exact ⟨h.1.1, h.1.2, h.2⟩
theorem bwOk_spec {d : OpD} {xs ds : List Int} (h : bwOk d xs ds = true) : okOd d = true ∧ okV xs = true ∧ (xs.length : Int) = d.i ∧ okV ds = true ∧ (ds.length : Int) = d.o := by
  simp only [bwOk, Bool.and_eq_true, decide_eq_true_eq] at h
  have := fwOk_spec h.1.1
  exact ⟨this.1, this.2.1, this.2.2, h.1.2, h.2⟩
theorem fw_no {d : OpD} {xs : List Int} (h : fwOk d xs = false) : fw d xs = [] ∧ fwS d xs = false := by rw [fw, fwS, h]; exact ⟨rfl, rfl⟩
theorem fw_yes {d : OpD} {xs : List Int} (h : fwOk d xs = true) : fw d xs = fwV d xs ∧ fwS d xs = fwB d xs := by rw [fw, fwS, h]; exact ⟨rfl, rfl⟩
theorem bw_no {d : OpD} {xs ds : List Int} (h : bwOk d xs ds = false) : bw d xs ds = [] ∧ bwG d xs ds = [] ∧ bwS d xs ds = false := by rw [bw, bwG, bwS, h]; exact ⟨rfl, rfl, rfl⟩
theorem bw_yes {d : OpD} {xs ds : List Int} (h : bwOk d xs ds = true) : bw d xs ds = bwV d xs ds ∧ bwG d xs ds = bwGV d xs ds ∧ bwS d xs ds = bwB d xs ds := by rw [bw, bwG, bwS, h]; exact ⟨rfl, rfl, rfl⟩
theorem fwV_len {d : OpD} {xs : List Int} : (fwV d xs).length ≤ 6 := by
  rw [fwV]; split
  · exact mVec_len ..
  split
  · exact vAdd_len ..
  split
  · exact vRelu_len ..
  split
  · exact vScale_len ..
  · exact vAdd_len ..
theorem fw_len (d : OpD) (xs : List Int) : (fw d xs).length ≤ 6 := by
  rw [fw]; split
  · exact fwV_len
  · simp
theorem bw_len (d : OpD) (xs ds : List Int) : (bw d xs ds).length ≤ 6 := by
  rw [bw]; split
  · rename_i h
    have := okV_len (bwOk_spec h).2.2.2.1
    rw [bwV]; split
    · exact mBack_len ..
    split
    · omega
    split
    · exact vMask_len ..
    split
    · exact vScale_len ..
    · exact vAdd_len ..
  · simp
theorem bwG_len (d : OpD) (xs ds : List Int) : (bwG d xs ds).length ≤ 36 := by
  rw [bwG]; split
  · rename_i h
    have := okV_len (bwOk_spec h).2.2.2.1
    rw [bwGV]; split
    · exact mOut_len ..
    split
    · omega
    split
    · simp
    split
    · simp
    · exact mOut_len ..
  · simp

/-! what goes into each operation -/
def insR : List OpD → List Int → List (List Int)
  | [], xs => [xs]
  | d :: ds, xs => xs :: insR ds (fw d xs)
def insS : List OpD → List Int → Bool
  | [], _ => false
  | d :: ds, xs => fwS d xs || insS ds (fw d xs)
theorem insR_len : ∀ (ds : List OpD) (xs : List Int), (insR ds xs).length = ds.length + 1
  | [], _ => rfl
  | d :: ds, xs => by rw [insR, List.length_cons, insR_len ds, List.length_cons]
theorem insR_zero (ds : List OpD) (xs : List Int) : (insR ds xs)[0]? = some xs := by cases ds <;> rfl
theorem insR_succ : ∀ (ds : List OpD) (xs : List Int) (j : Nat) (d : OpD) (r : List Int), ds[j]? = some d → (insR ds xs)[j]? = some r → (insR ds xs)[j + 1]? = some (fw d r)
  | a :: ds, xs, 0, d, r, hd, hr => by
    simp at hd; subst hd
    simp [insR] at hr; subst hr
    rw [insR, List.getElem?_cons_succ, insR_zero]
  | a :: ds, xs, j + 1, d, r, hd, hr => by
    rw [insR, List.getElem?_cons_succ]
    rw [insR, List.getElem?_cons_succ] at hr
    exact insR_succ ds _ j d r (by simpa using hd) hr
  | [], _, _, _, _, hd, _ => by simp at hd
/-- the marks, one for each operation -/
def insB : List OpD → List Int → List Bool
  | [], _ => []
  | d :: ds, xs => fwS d xs :: insB ds (fw d xs)
theorem insB_any : ∀ (ds : List OpD) (xs : List Int), (insB ds xs).any id = insS ds xs
  | [], _ => rfl
  | d :: ds, xs => by rw [insB, List.any_cons, insB_any ds, insS]; rfl
theorem insB_len : ∀ (ds : List OpD) (xs : List Int), (insB ds xs).length = ds.length
  | [], _ => rfl
  | d :: ds, xs => by rw [insB, List.length_cons, insB_len ds, List.length_cons]
theorem insB_get : ∀ (ds : List OpD) (xs : List Int) (j : Nat) (d : OpD) (r : List Int), ds[j]? = some d → (insR ds xs)[j]? = some r → (insB ds xs).getD j false = fwS d r
  | a :: ds, xs, 0, d, r, hd, hr => by
    simp at hd; subst hd
    simp [insR] at hr; subst hr
    rfl
  | a :: ds, xs, j + 1, d, r, hd, hr => by
    rw [insR, List.getElem?_cons_succ] at hr
    rw [insB, List.getD_cons_succ]
    exact insB_get ds _ j d r (by simpa using hd) hr
  | [], _, _, _, _, hd, _ => by simp at hd
theorem insR_row (ds : List OpD) : ∀ (xs : List Int), xs.length ≤ 6 → ∀ (j : Nat) (r : List Int), (insR ds xs)[j]? = some r → r.length ≤ 6 := by
  induction ds with
  | nil =>
    intro xs hx j r h
    match j with
    | 0 => simp [insR] at h; subst h; exact hx
    | j + 1 => simp [insR] at h
  | cons d ds ih =>
    intro xs hx j r h
    match j with
    | 0 => simp [insR] at h; subst h; exact hx
    | j + 1 => exact ih (fw d xs) (fw_len d xs) j r (by simpa [insR] using h)

/-! back through the operations -/
/-- what goes on ahead when j operations have been gone back through, from the end -/
def bkD (ds : List OpD) (rs : List (List Int)) (e : List Int) : Nat → List Int
  | 0 => e
  | j + 1 => match ds[ds.length - 1 - j]?, rs[ds.length - 1 - j]? with
    | some d, some r => bw d r (bkD ds rs e j)
    | _, _ => []
/-- the gradients of operation i -/
def bkG (ds : List OpD) (rs : List (List Int)) (e : List Int) (i : Nat) : List Int :=
  match ds[i]?, rs[i]? with
  | some d, some r => bwG d r (bkD ds rs e (ds.length - 1 - i))
  | _, _ => []
def bkB (ds : List OpD) (rs : List (List Int)) (e : List Int) (i : Nat) : Bool :=
  match ds[i]?, rs[i]? with
  | some d, some r => bwS d r (bkD ds rs e (ds.length - 1 - i))
  | _, _ => false
def bkR (ds : List OpD) (rs : List (List Int)) (e : List Int) : List (List Int) := (List.range ds.length).map (bkG ds rs e)
/-- was any of the last j out of the range? -/
def bkS (ds : List OpD) (rs : List (List Int)) (e : List Int) : Nat → Bool
  | 0 => false
  | j + 1 => bkS ds rs e j || bkB ds rs e (ds.length - 1 - j)
theorem bkG_len (ds : List OpD) (rs : List (List Int)) (e : List Int) (i : Nat) : (bkG ds rs e i).length ≤ 36 := by
  rw [bkG]; split
  · exact bwG_len ..
  · simp
theorem bkD_len {ds : List OpD} {rs : List (List Int)} {e : List Int} (he : e.length ≤ 6) (j : Nat) : (bkD ds rs e j).length ≤ 6 := by
  cases j with
  | zero => exact he
  | succ j =>
    rw [bkD]; split
    · exact bw_len ..
    · simp
section
variable {ds : List OpD} {rs : List (List Int)} {e : List Int} {i j : Nat} {d : OpD} {r : List Int}
theorem bkD_step (hij : i + j + 1 = ds.length) (hd : ds[i]? = some d) (hr : rs[i]? = some r) : bkD ds rs e (j + 1) = bw d r (bkD ds rs e j) := by
  rw [bkD, show ds.length - 1 - j = i by omega, hd, hr]
theorem bkG_step (hij : i + j + 1 = ds.length) (hd : ds[i]? = some d) (hr : rs[i]? = some r) : bkG ds rs e i = bwG d r (bkD ds rs e j) := by
  rw [bkG, hd, hr, show ds.length - 1 - i = j by omega]
theorem bkS_step (hij : i + j + 1 = ds.length) (hd : ds[i]? = some d) (hr : rs[i]? = some r) : bkS ds rs e (j + 1) = (bkS ds rs e j || bwS d r (bkD ds rs e j)) := by
  rw [bkS, show ds.length - 1 - j = i by omega, bkB, hd, hr, show ds.length - 1 - i = j by omega]
end

/-! gradients -/
structure GrD where
  rows : List (List Int)
  loss : Int
  sat : Bool
def zeroG (ds : List OpD) : GrD := ⟨if okMd ds = true then ds.map (fun d => List.replicate d.p.length 0) else [], 0, false⟩
def addRow (a b : List Int) : List Int := List.zipWith fxAdd a b
def addRowS (a b : List Int) : Bool := anyZ fxAddS a b
def addG (a b : GrD) : GrD := ⟨List.zipWith addRow a.rows b.rows, fxAdd a.loss b.loss, (a.sat || b.sat) || (List.zipWith addRowS a.rows b.rows).any id || fxAddS a.loss b.loss⟩
def fitP (ds : List OpD) (x t : List Int) : Bool := okMd ds && (okV x && decide ((x.length : Int) = mIn ds)) && (okV t && decide ((t.length : Int) = mOutN ds))
def okBatch (ds : List OpD) (ps : List PrD) : Bool := okMd ds && decide (1 ≤ ps.length) && decide (ps.length ≤ 5) && ps.all fun p => fitP ds p.x p.t
/-- what comes out at the end -/
def outV (ds : List OpD) (x : List Int) : List Int := (insR ds x).getD ds.length []
def microG (ds : List OpD) (x t : List Int) : GrD :=
  if fitP ds x t = true then
    ⟨bkR ds (insR ds x) (vSub (outV ds x) t), lossV (outV ds x) t, insS ds x || lossS (outV ds x) t || vSubS (outV ds x) t || bkS ds (insR ds x) (vSub (outV ds x) t) ds.length⟩
  else ⟨[], 0, false⟩
def seqGo (ds : List OpD) (g : GrD) (ps : List PrD) : GrD := ps.foldl (fun g p => addG g (microG ds p.x p.t)) g
def seqG (ds : List OpD) (ps : List PrD) : GrD := if okBatch ds ps = true then seqGo ds (zeroG ds) ps else ⟨[], 0, false⟩
end Go.Proofs.Ytehfglfbnjdcoaa
