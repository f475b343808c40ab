/-
  Operations ahead and back, gradients: plain Lean functions (no program in sight).
-/
import Derived.Test.YtehfglfbnjdcoaaPlainO
import Derived.Test.YtehfglfbnjdcoaaPlainT
import Derived.Test.YtehfglfbnjdcoaaLoss
namespace Go.Proofs.Ytehfglfbnjdcoaa
open Go.RowKit
set_option maxRecDepth 100000

def fwOk (d : OpD) (xs : List Int) : Bool := okOd d && okV xs && decide ((xs.length : Int) = d.i)
def fwV (d : OpD) (xs : List Int) : List Int :=
  if d.k = 1 then mVec d.o d.i d.p xs else if d.k = 2 then vAdd xs d.p else if d.k = 3 then vRelu xs else if d.k = 4 then vScale (d.p.getD 0 0) xs else vAdd xs (mVec d.o d.i d.p xs)
def fwB (d : OpD) (xs : List Int) : Bool :=
  if d.k = 1 then mVecS d.o d.i d.p xs else if d.k = 2 then vAddS xs d.p else if d.k = 3 then false else if d.k = 4 then vScaleS (d.p.getD 0 0) xs else mVecS d.o d.i d.p xs || vAddS xs (mVec d.o d.i d.p xs)
def fw (d : OpD) (xs : List Int) : List Int := if fwOk d xs = true then fwV d xs else []
def fwS (d : OpD) (xs : List Int) : Bool := fwOk d xs && fwB d xs
def bwOk (d : OpD) (xs ds : List Int) : Bool := fwOk d xs && okV ds && decide ((ds.length : Int) = d.o)
def bwV (d : OpD) (xs ds : List Int) : List Int :=
  if d.k = 1 then mBack d.o d.i d.p ds else if d.k = 2 then ds else if d.k = 3 then vMask xs ds else if d.k = 4 then vScale (d.p.getD 0 0) ds else vAdd ds (mBack d.o d.i d.p ds)
def bwGV (d : OpD) (xs ds : List Int) : List Int :=
  if d.k = 1 then mOut ds xs else if d.k = 2 then ds else if d.k = 3 then [] else if d.k = 4 then [vDot ds xs] else mOut ds xs
def bwB (d : OpD) (xs ds : List Int) : Bool :=
  if d.k = 1 then mBackS d.o d.i d.p ds || mOutS ds xs else if d.k = 2 then false else if d.k = 3 then false else if d.k = 4 then vScaleS (d.p.getD 0 0) ds || vDotS ds xs else mBackS d.o d.i d.p ds || vAddS ds (mBack d.o d.i d.p ds) || mOutS ds xs
def bw (d : OpD) (xs ds : List Int) : List Int := if bwOk d xs ds = true then bwV d xs ds else []
def bwG (d : OpD) (xs ds : List Int) : List Int := if bwOk d xs ds = true then bwGV d xs ds else []
def bwS (d : OpD) (xs ds : List Int) : Bool := bwOk d xs ds && bwB d xs ds

/-- what a right operation is -/
theorem okOd_spec {d : OpD} (h : okOd d = true) : 1 ≤ d.k ∧ d.k ≤ 5 ∧ 1 ≤ d.i ∧ d.i ≤ 6 ∧ 1 ≤ d.o ∧ d.o ≤ 6 ∧ (d.k ≠ 1 → d.i = d.o) ∧ (d.p.length : Int) = opSize d.k d.i d.o ∧ d.p.all fxOk = true := by
  simp only [okOd, okO, Bool.and_eq_true, decide_eq_true_eq] at h
  obtain ⟨⟨h1, h2, h3, h4, h5, h6, h7, h8⟩, h9⟩ := h
  exact ⟨h1, h2, h3, h4, h5, h6, fun hk => h7.resolve_left hk, h8, h9⟩
theorem fwOk_spec {d : OpD} {xs : List Int} (h : fwOk d xs = true) : okOd d = true ∧ okV xs = true ∧ (xs.length : Int) = d.i := by
  simp only [fwOk, Bool.and_eq_true, decide_eq_true_eq] at h
  exact ⟨h.1.1, h.1.2, h.2⟩
theorem bwOk_spec {d : OpD} {xs ds : List Int} (h : bwOk d xs ds = true) : okOd d = true ∧ okV xs = true ∧ (xs.length : Int) = d.i ∧ okV ds = true ∧ (ds.length : Int) = d.o := by
  simp only [bwOk, Bool.and_eq_true, decide_eq_true_eq] at h
  have := fwOk_spec h.1.1
  exact ⟨this.1, this.2.1, this.2.2, h.1.2, h.2⟩
theorem fw_no {d : OpD} {xs : List Int} (h : fwOk d xs = false) : fw d xs = [] ∧ fwS d xs = false := by rw [fw, fwS, h]; exact ⟨rfl, rfl⟩
theorem fw_yes {d : OpD} {xs : List Int} (h : fwOk d xs = true) : fw d xs = fwV d xs ∧ fwS d xs = fwB d xs := by rw [fw, fwS, h]; exact ⟨rfl, rfl⟩
theorem bw_no {d : OpD} {xs ds : List Int} (h : bwOk d xs ds = false) : bw d xs ds = [] ∧ bwG d xs ds = [] ∧ bwS d xs ds = false := by rw [bw, bwG, bwS, h]; exact ⟨rfl, rfl, rfl⟩
theorem bw_yes {d : OpD} {xs ds : List Int} (h : bwOk d xs ds = true) : bw d xs ds = bwV d xs ds ∧ bwG d xs ds = bwGV d xs ds ∧ bwS d xs ds = bwB d xs ds := by rw [bw, bwG, bwS, h]; exact ⟨rfl, rfl, rfl⟩
theorem fwV_len {d : OpD} {xs : List Int} : (fwV d xs).length ≤ 6 := by
  rw [fwV]; split
  · exact mVec_len ..
  split
  · exact vAdd_len ..
  split
  · exact vRelu_len ..
  split
  · exact vScale_len ..
  · exact vAdd_len ..
theorem fw_len (d : OpD) (xs : List Int) : (fw d xs).length ≤ 6 := by
  rw [fw]; split
  · exact fwV_len
  · simp
theorem bw_len (d : OpD) (xs ds : List Int) : (bw d xs ds).length ≤ 6 := by
  rw [bw]; split
  · rename_i h
    have := okV_len (bwOk_spec h).2.2.2.1
    rw [bwV]; split
    · exact mBack_len ..
    split
    · omega
    split
    · exact vMask_len ..
    split
    · exact vScale_len ..
    · exact vAdd_len ..
  · simp
theorem bwG_len (d : OpD) (xs ds : List Int) : (bwG d xs ds).length ≤ 36 := by
  rw [bwG]; split
  · rename_i h
    have := okV_len (bwOk_spec h).2.2.2.1
    rw [bwGV]; split
    · exact mOut_len ..
    split
    · omega
    split
    · simp
    split
    · simp
    · exact mOut_len ..
  · simp

/-! what goes into each operation -/
def insR : List OpD → List Int → List (List Int)
  | [], xs => [xs]
  | d :: ds, xs => xs :: insR ds (fw d xs)
def insS : List OpD → List Int → Bool
  | [], _ => false
  | d :: ds, xs => fwS d xs || insS ds (fw d xs)
theorem insR_len : ∀ (ds : List OpD) (xs : List Int), (insR ds xs).length = ds.length + 1
  | [], _ => rfl
  | d :: ds, xs => by rw [insR, List.length_cons, insR_len ds, List.length_cons]
theorem insR_zero (ds : List OpD) (xs : List Int) : (insR ds xs)[0]? = some xs := by cases ds <;> rfl
theorem insR_succ : ∀ (ds : List OpD) (xs : List Int) (j : Nat) (d : OpD) (r : List Int), ds[j]? = some d → (insR ds xs)[j]? = some r → (insR ds xs)[j + 1]? = some (fw d r)
  | a :: ds, xs, 0, d, r, hd, hr => by
    simp at hd; subst hd
    simp [insR] at hr; subst hr
    rw [insR, List.getElem?_cons_succ, insR_zero]
  | a :: ds, xs, j + 1, d, r, hd, hr => by
    rw [insR, List.getElem?_cons_succ]
    rw [insR, List.getElem?_cons_succ] at hr
    exact insR_succ ds _ j d r (by simpa using hd) hr
  | [], _, _, _, _, hd, _ => by simp at hd
/-- the marks, one for each operation -/
def insB : List OpD → List Int → List Bool
  | [], _ => []
  | d :: ds, xs => fwS d xs :: insB ds (fw d xs)
theorem insB_any : ∀ (ds : List OpD) (xs : List Int), (insB ds xs).any id = insS ds xs
  | [], _ => rfl
  | d :: ds, xs => by rw [insB, List.any_cons, insB_any ds, insS]; rfl
theorem insB_len : ∀ (ds : List OpD) (xs : List Int), (insB ds xs).length = ds.length
  | [], _ => rfl
  | d :: ds, xs => by rw [insB, List.length_cons, insB_len ds, List.length_cons]
theorem insB_get : ∀ (ds : List OpD) (xs : List Int) (j : Nat) (d : OpD) (r : List Int), ds[j]? = some d → (insR ds xs)[j]? = some r → (insB ds xs).getD j false = fwS d r
  | a :: ds, xs, 0, d, r, hd, hr => by
    simp at hd; subst hd
    simp [insR] at hr; subst hr
    rfl
  | a :: ds, xs, j + 1, d, r, hd, hr => by
    rw [insR, List.getElem?_cons_succ] at hr
    rw [insB, List.getD_cons_succ]
    exact insB_get ds _ j d r (by simpa using hd) hr
  | [], _, _, _, _, hd, _ => by simp at hd
theorem insR_row (ds : List OpD) : ∀ (xs : List Int), xs.length ≤ 6 → ∀ (j : Nat) (r : List Int), (insR ds xs)[j]? = some r → r.length ≤ 6 := by
  induction ds with
  | nil =>
    intro xs hx j r h
    match j with
    | 0 => simp [insR] at h; subst h; exact hx
    | j + 1 => simp [insR] at h
  | cons d ds ih =>
    intro xs hx j r h
    match j with
    | 0 => simp [insR] at h; subst h; exact hx
    | j + 1 => exact ih (fw d xs) (fw_len d xs) j r (by simpa [insR] using h)

/-! back through the operations -/
/-- what goes on ahead when j operations have been gone back through, from the end -/
def bkD (ds : List OpD) (rs : List (List Int)) (e : List Int) : Nat → List Int
  | 0 => e
  | j + 1 => match ds[ds.length - 1 - j]?, rs[ds.length - 1 - j]? with
    | some d, some r => bw d r (bkD ds rs e j)
    | _, _ => []
/-- the gradients of operation i -/
def bkG (ds : List OpD) (rs : List (List Int)) (e : List Int) (i : Nat) : List Int :=
  match ds[i]?, rs[i]? with
  | some d, some r => bwG d r (bkD ds rs e (ds.length - 1 - i))
  | _, _ => []
def bkB (ds : List OpD) (rs : List (List Int)) (e : List Int) (i : Nat) : Bool :=
  match ds[i]?, rs[i]? with
  | some d, some r => bwS d r (bkD ds rs e (ds.length - 1 - i))
  | _, _ => false
def bkR (ds : List OpD) (rs : List (List Int)) (e : List Int) : List (List Int) := (List.range ds.length).map (bkG ds rs e)
/-- was any of the last j out of the range? -/
def bkS (ds : List OpD) (rs : List (List Int)) (e : List Int) : Nat → Bool
  | 0 => false
  | j + 1 => bkS ds rs e j || bkB ds rs e (ds.length - 1 - j)
theorem bkG_len (ds : List OpD) (rs : List (List Int)) (e : List Int) (i : Nat) : (bkG ds rs e i).length ≤ 36 := by
  rw [bkG]; split
  · exact bwG_len ..
  · simp
theorem bkD_len {ds : List OpD} {rs : List (List Int)} {e : List Int} (he : e.length ≤ 6) (j : Nat) : (bkD ds rs e j).length ≤ 6 := by
  cases j with
  | zero => exact he
  | succ j =>
    rw [bkD]; split
    · exact bw_len ..
    · simp
section
variable {ds : List OpD} {rs : List (List Int)} {e : List Int} {i j : Nat} {d : OpD} {r : List Int}
theorem bkD_step (hij : i + j + 1 = ds.length) (hd : ds[i]? = some d) (hr : rs[i]? = some r) : bkD ds rs e (j + 1) = bw d r (bkD ds rs e j) := by
  rw [bkD, show ds.length - 1 - j = i by omega, hd, hr]
theorem bkG_step (hij : i + j + 1 = ds.length) (hd : ds[i]? = some d) (hr : rs[i]? = some r) : bkG ds rs e i = bwG d r (bkD ds rs e j) := by
  rw [bkG, hd, hr, show ds.length - 1 - i = j by omega]
theorem bkS_step (hij : i + j + 1 = ds.length) (hd : ds[i]? = some d) (hr : rs[i]? = some r) : bkS ds rs e (j + 1) = (bkS ds rs e j || bwS d r (bkD ds rs e j)) := by
  rw [bkS, show ds.length - 1 - j = i by omega, bkB, hd, hr, show ds.length - 1 - i = j by omega]
end

/-! gradients -/
structure GrD where
  rows : List (List Int)
  loss : Int
  sat : Bool
def zeroG (ds : List OpD) : GrD := ⟨if okMd ds = true then ds.map (fun d => List.replicate d.p.length 0) else [], 0, false⟩
def addRow (a b : List Int) : List Int := List.zipWith fxAdd a b
def addRowS (a b : List Int) : Bool := anyZ fxAddS a b
def addG (a b : GrD) : GrD := ⟨List.zipWith addRow a.rows b.rows, fxAdd a.loss b.loss, (a.sat || b.sat) || (List.zipWith addRowS a.rows b.rows).any id || fxAddS a.loss b.loss⟩
def fitP (ds : List OpD) (x t : List Int) : Bool := okMd ds && (okV x && decide ((x.length : Int) = mIn ds)) && (okV t && decide ((t.length : Int) = mOutN ds))
def okBatch (ds : List OpD) (ps : List PrD) : Bool := okMd ds && decide (1 ≤ ps.length) && decide (ps.length ≤ 5) && ps.all fun p => fitP ds p.x p.t
/-- what comes out at the end -/
def outV (ds : List OpD) (x : List Int) : List Int := (insR ds x).getD ds.length []
def microG (ds : List OpD) (x t : List Int) : GrD :=
  if fitP ds x t = true then
    ⟨bkR ds (insR ds x) (vSub (outV ds x) t), lossV (outV ds x) t, insS ds x || lossS (outV ds x) t || vSubS (outV ds x) t || bkS ds (insR ds x) (vSub (outV ds x) t) ds.length⟩
  else ⟨[], 0, false⟩
def seqGo (ds : List OpD) (g : GrD) (ps : List PrD) : GrD := ps.foldl (fun g p => addG g (microG ds p.x p.t)) g
def seqG (ds : List OpD) (ps : List PrD) : GrD := if okBatch ds ps = true then seqGo ds (zeroG ds) ps else ⟨[], 0, false⟩
end Go.Proofs.Ytehfglfbnjdcoaa
