/-
  Plain Lean functions for models.
-/
import Derived.Test.YtehfglfbnjdcoaaOp
import Derived.Test.YtehfglfbnjdcoaaRec
namespace Go.Proofs.Ytehfglfbnjdcoaa
open Go.RowKit
set_option maxRecDepth 100000

def okOd (d : OpD) : Bool := okO d.k d.i d.o d.p
/-- operation j is right, and fits behind the one ahead of it -/
def okAt (ds : List OpD) (j : Nat) : Bool :=
  match ds[j]? with
  | none => false
  | some d => okOd d && (match j with
    | 0 => true
    | i + 1 => match ds[i]? with
      | none => false
      | some p => decide (p.o = d.i))
def okMd (ds : List OpD) : Bool := decide (1 ≤ ds.length) && decide (ds.length ≤ 8) && (List.range ds.length).all (okAt ds)
theorem okMd_yes {ds : List OpD} {n : Nat} (hl : ds.length = n) (h1 : 1 ≤ n) (h2 : n ≤ 8) (h : ∀ j, j < n → okAt ds j = true) : okMd ds = true := by
  rw [okMd, hl, decide_eq_true h1, decide_eq_true h2]
  simpa using h
theorem okMd_no {ds : List OpD} {n j : Nat} (hl : ds.length = n) (hj : j < n) (h : okAt ds j = false) : okMd ds = false := by
  rw [okMd, Bool.and_eq_false_iff]
  right
  rw [List.all_eq_false]
  exact ⟨j, by simpa [hl] using hj, by simp [h]⟩
theorem okMd_lo {ds : List OpD} (h : ds.length < 1) : okMd ds = false := by rw [okMd, decide_eq_false (by omega)]; rfl
theorem okMd_hi {ds : List OpD} (h : 8 < ds.length) : okMd ds = false := by rw [okMd, decide_eq_false (show ¬ ds.length ≤ 8 by omega), Bool.and_false]; rfl
theorem okMd_len {ds : List OpD} (h : okMd ds = true) : 1 ≤ ds.length ∧ ds.length ≤ 8 := by
  rw [okMd, Bool.and_eq_true, Bool.and_eq_true, decide_eq_true_eq, decide_eq_true_eq] at h
  exact h.1
theorem okMd_at {ds : List OpD} (h : okMd ds = true) {j : Nat} (hj : j < ds.length) : okAt ds j = true := by
  rw [okMd, Bool.and_eq_true, List.all_eq_true] at h
  exact h.2 j (by simpa using hj)
theorem okMd_op {ds : List OpD} (h : okMd ds = true) {j : Nat} {d : OpD} (hd : ds[j]? = some d) : okOd d = true := by
  have := okMd_at h (List.getElem?_eq_some_iff.1 hd).1
  rw [okAt, hd] at this
  simp only [Bool.and_eq_true] at this
  exact this.1
theorem okAt_bad {ds : List OpD} {j : Nat} {d : OpD} (hd : ds[j]? = some d) (h : okOd d = false) : okAt ds j = false := by
  rw [okAt, hd]; simp [h]
theorem okAt_zero {ds : List OpD} {d : OpD} (hd : ds[0]? = some d) : okAt ds 0 = okOd d := by
  rw [okAt, hd]; simp
theorem okAt_succ {ds : List OpD} {j : Nat} {d p : OpD} (hd : ds[j + 1]? = some d) (hp : ds[j]? = some p) : okAt ds (j + 1) = (okOd d && decide (p.o = d.i)) := by
  rw [okAt, hd]; simp [hp]
def mIn (ds : List OpD) : Int := if okMd ds = true then (match ds.head? with | none => 0 | some d => d.i) else 0
def mOutN (ds : List OpD) : Int := if okMd ds = true then (match ds.getLast? with | none => 0 | some d => d.o) else 0
def sumN (ls : List Nat) : Nat := ls.foldr (· + ·) 0
theorem sumN_take : ∀ (ls : List Nat) (j l : Nat), ls[j]? = some l → sumN (ls.take (j + 1)) = sumN (ls.take j) + l
  | a :: ls, 0, l, h => by simp at h; subst h; simp [sumN]
  | a :: ls, j + 1, l, h => by
    have ih := sumN_take ls j l (by simpa using h)
    simp only [List.take_succ_cons, sumN, List.foldr_cons] at ih ⊢
    omega
  | [], _, _, h => by simp at h
theorem sumN_le : ∀ (ls : List Nat) (b : Nat), (∀ (j l : Nat), ls[j]? = some l → l ≤ b) → sumN ls ≤ ls.length * b
  | [], b, _ => by simp [sumN]
  | a :: ls, b, h => by
    have h1 := sumN_le ls b (fun j l hj => h (j + 1) l (by simpa using hj))
    have h2 := h 0 a (by simp)
    rw [List.length_cons, Nat.succ_mul]
    simp only [sumN, List.foldr_cons] at h1 ⊢
    omega
def mWords (ds : List OpD) : Int := if okMd ds = true then (sumN (ds.map fun d => d.p.length) : Nat) else 0
theorem okOd_len {d : OpD} (h : okOd d = true) : d.p.length ≤ 36 := by
  rw [okOd, okO, Bool.and_eq_true, decide_eq_true_eq] at h
  have := opSize_bd d.k d.i d.o
  omega
end Go.Proofs.Ytehfglfbnjdcoaa
