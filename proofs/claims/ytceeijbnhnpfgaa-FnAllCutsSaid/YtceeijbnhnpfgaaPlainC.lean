/-
  The ways to cut (no program in sight).
-/
import Derived.Test.YtceeijbnhnpfgaaPlainA
namespace Go.Proofs.Ytceeijbnhnpfgaa

/-- where the next cut may begin -/
def cFrom (r : List Int) : Int :=
  match r.getLast? with
  | none => 1
  | some x => x + 1
def cRange (a b : Int) : List Int := (List.range (b + 1 - a).toNat).map fun (j : Nat) => a + (j : Int)
def cExt (top : Int) (r : List Int) : List (List Int) := (cRange (cFrom r) top).map fun c => r ++ [c]
def cRows (ops stages : Nat) : Nat → List (List Int)
  | 0 => [[]]
  | i + 1 => (cRows ops stages i).flatMap (cExt ((ops : Int) - (stages : Int) + ((i + 1 : Nat) : Int)))
def cAll (ops stages : Nat) : List (List Int) := cRows ops stages (stages - 1)
def okCut (ops stages : Int) : Bool := decide (1 ≤ ops) && decide (ops ≤ 8) && decide (1 ≤ stages) && decide (stages ≤ ops)
def cuts (ops stages : Int) : List (List Int) := if okCut ops stages = true then cAll ops.toNat stages.toNat else []

theorem okCut_spec {ops st : Int} (h : okCut ops st = true) : ∃ N K : Nat, ops = N ∧ st = K ∧ 1 ≤ K ∧ K ≤ N ∧ N ≤ 8 := by
  simp only [okCut, Bool.and_eq_true, decide_eq_true_eq] at h
  exact ⟨ops.toNat, st.toNat, by omega, by omega, by omega, by omega, by omega⟩
theorem okCut_no {ops st : Int} (h : ¬ okCut ops st = true) : ops < 1 ∨ (1 ≤ ops ∧ 8 < ops) ∨ (1 ≤ ops ∧ ops ≤ 8 ∧ st < 1) ∨ (1 ≤ ops ∧ ops ≤ 8 ∧ 1 ≤ st ∧ ops < st) := by
  simp only [okCut, Bool.and_eq_true, decide_eq_true_eq] at h
  omega
theorem cuts_yes (N K : Nat) (h1 : 1 ≤ K) (h2 : K ≤ N) (h3 : N ≤ 8) : cuts N K = cRows N K (K - 1) := by
  rw [cuts, if_pos, cAll, Int.toNat_natCast, Int.toNat_natCast]
  simp only [okCut, Bool.and_eq_true, decide_eq_true_eq]; omega
theorem cuts_no {ops st : Int} (h : ¬ okCut ops st = true) : cuts ops st = [] := by rw [cuts, if_neg h]
theorem cRange_len (a b : Int) : (cRange a b).length = (b + 1 - a).toNat := by simp [cRange]
theorem cExt_len (top : Int) (r : List Int) : (cExt top r).length = (top + 1 - cFrom r).toNat := by simp [cExt, cRange_len]
theorem cExt_get (top : Int) (r : List Int) (j : Nat) (h : j < (cExt top r).length) : (cExt top r)[j]? = some (r ++ [cFrom r + (j : Int)]) := by
  rw [cExt_len] at h
  simp [cExt, cRange, h]
theorem cExt_take (top : Int) (r : List Int) (j : Nat) (h : j < (cExt top r).length) : (cExt top r).take (j + 1) = (cExt top r).take j ++ [r ++ [cFrom r + (j : Int)]] := by
  rw [List.take_add_one, cExt_get top r j h]; rfl
theorem flatMap_take_succ {α β : Type} (g : α → List β) (l : List α) (k : Nat) (a : α) (h : l[k]? = some a) : (l.take (k + 1)).flatMap g = (l.take k).flatMap g ++ g a := by
  rw [List.take_add_one, h, List.flatMap_append]; simp
theorem flatMap_take_le {α β : Type} (g : α → List β) (l : List α) (k : Nat) : ((l.take k).flatMap g).length ≤ (l.flatMap g).length := by
  induction l generalizing k with
  | nil => simp
  | cons a l ih =>
    cases k with
    | zero => simp
    | succ k => rw [List.take_succ_cons, List.flatMap_cons, List.flatMap_cons, List.length_append, List.length_append]; have := ih k; omega
theorem cFrom_nil : cFrom [] = 1 := rfl
theorem cFrom_last (r : List Int) (n : Nat) (h : r.length = n + 1) : cFrom r = r.getD n 0 + 1 := by
  rw [cFrom, List.getLast?_eq_getElem?, h, Nat.add_sub_cancel, List.getD]
  rw [List.getElem?_eq_getElem (by omega)]; rfl

/-! what holds of them, by looking at all -/
def chkI (ops st : Nat) : Bool :=
  (List.range st).all fun i => decide ((cRows ops st i).length ≤ 70) && (cRows ops st i).all fun r => decide (r.length = i) && r.all fun x => decide (1 ≤ x) && decide (x ≤ 8)
theorem chkI_all : ((List.range 9).all fun ops => (List.range (ops + 1)).all fun st => chkI ops st) = true := by decide +kernel
theorem cRows_ok {ops st i : Nat} (ho : ops ≤ 8) (hs : st ≤ ops) (hi : i < st) : (cRows ops st i).length ≤ 70 ∧ ∀ r ∈ cRows ops st i, r.length = i ∧ ∀ x ∈ r, 1 ≤ x ∧ x ≤ 8 := by
  have h := List.all_eq_true.1 chkI_all ops (List.mem_range.2 (by omega))
  have h := List.all_eq_true.1 h st (List.mem_range.2 (by omega))
  have h := List.all_eq_true.1 h i (List.mem_range.2 hi)
  simp only [Bool.and_eq_true, decide_eq_true_eq] at h
  refine ⟨h.1, fun r hr => ?_⟩
  have h2 := List.all_eq_true.1 h.2 r hr
  simp only [Bool.and_eq_true, decide_eq_true_eq] at h2
  refine ⟨h2.1, fun x hx => ?_⟩
  have h3 := List.all_eq_true.1 h2.2 x hx
  simpa using h3

/-- the last place, below j, that may go on -/
def pivot (ops : Nat) (now : List Int) : Nat → Option Nat
  | 0 => none
  | j + 1 => if now.getD j 0 = (ops : Int) - (now.length : Int) + (j : Int) then pivot ops now j else some j
def nextRow (now : List Int) (k : Nat) : List Int := now.take k ++ (List.range (now.length - k)).map fun (j : Nat) => now.getD k 0 + 1 + (j : Int)
def chkS (ops st : Nat) : Bool :=
  decide (0 < (cAll ops st).length) && decide ((cAll ops st).getD 0 [] = (List.range (st - 1)).map fun (j : Nat) => (j : Int) + 1) &&
  (List.range (cAll ops st).length).all fun t =>
    match pivot ops ((cAll ops st).getD t []) (st - 1) with
    | none => decide (t + 1 = (cAll ops st).length)
    | some k => decide (t + 1 < (cAll ops st).length) && decide ((cAll ops st).getD (t + 1) [] = nextRow ((cAll ops st).getD t []) k)
theorem chkS_all : ((List.range 9).all fun ops => (List.range ops).all fun st => chkS ops (st + 1)) = true := by decide +kernel
theorem chkS_of {ops st : Nat} (ho : ops ≤ 8) (hs : 1 ≤ st) (hs' : st ≤ ops) : chkS ops st = true := by
  have h := List.all_eq_true.1 chkS_all ops (List.mem_range.2 (by omega))
  have h := List.all_eq_true.1 h (st - 1) (List.mem_range.2 (by omega))
  rwa [show st - 1 + 1 = st by omega] at h
theorem cAll_first {ops st : Nat} (ho : ops ≤ 8) (hs : 1 ≤ st) (hs' : st ≤ ops) : 0 < (cAll ops st).length ∧ (cAll ops st).getD 0 [] = (List.range (st - 1)).map fun (j : Nat) => (j : Int) + 1 := by
  have h := chkS_of ho hs hs'
  simp only [chkS, Bool.and_eq_true, decide_eq_true_eq] at h
  exact h.1
theorem cAll_last {ops st t : Nat} (ho : ops ≤ 8) (hs : 1 ≤ st) (hs' : st ≤ ops) (ht : t < (cAll ops st).length) (hp : pivot ops ((cAll ops st).getD t []) (st - 1) = none) : t + 1 = (cAll ops st).length := by
  have h := chkS_of ho hs hs'
  simp only [chkS, Bool.and_eq_true] at h
  have h := List.all_eq_true.1 h.2 t (List.mem_range.2 ht)
  rw [hp] at h
  simpa using h
theorem cAll_next {ops st t k : Nat} (ho : ops ≤ 8) (hs : 1 ≤ st) (hs' : st ≤ ops) (ht : t < (cAll ops st).length) (hp : pivot ops ((cAll ops st).getD t []) (st - 1) = some k) :
    t + 1 < (cAll ops st).length ∧ (cAll ops st).getD (t + 1) [] = nextRow ((cAll ops st).getD t []) k := by
  have h := chkS_of ho hs hs'
  simp only [chkS, Bool.and_eq_true] at h
  have h := List.all_eq_true.1 h.2 t (List.mem_range.2 ht)
  rw [hp] at h
  simpa using h
theorem cAll_row {ops st t : Nat} (ho : ops ≤ 8) (hs : 1 ≤ st) (hs' : st ≤ ops) (ht : t < (cAll ops st).length) : ((cAll ops st).getD t []).length = st - 1 ∧ ∀ x ∈ (cAll ops st).getD t [], 1 ≤ x ∧ x ≤ 8 := by
  refine (cRows_ok (i := st - 1) ho hs' (by omega)).2 _ ?_
  rw [List.getD, List.getElem?_eq_getElem ht]
  exact List.getElem_mem ht
theorem cAll_len {ops st : Nat} (ho : ops ≤ 8) (hs : 1 ≤ st) (hs' : st ≤ ops) : (cAll ops st).length ≤ 70 := (cRows_ok (i := st - 1) ho hs' (by omega)).1
theorem pivot_none {ops : Nat} {now : List Int} : ∀ {j : Nat}, pivot ops now j = none → ∀ q, q < j → now.getD q 0 = (ops : Int) - (now.length : Int) + (q : Int)
  | 0, _, q, hq => absurd hq (by omega)
  | j + 1, h, q, hq => by
    rw [pivot] at h
    split at h
    · by_cases hqj : q = j
      · subst hqj; assumption
      · exact pivot_none h q (by omega)
    · cases h
theorem pivot_step {ops : Nat} {now : List Int} {j : Nat} (h : now.getD j 0 = (ops : Int) - (now.length : Int) + (j : Int)) : pivot ops now (j + 1) = pivot ops now j := by rw [pivot, if_pos h]
theorem pivot_stop {ops : Nat} {now : List Int} {j : Nat} (h : ¬ now.getD j 0 = (ops : Int) - (now.length : Int) + (j : Int)) : pivot ops now (j + 1) = some j := by rw [pivot, if_neg h]

theorem cuts_small (ops st : Int) : (cuts ops st).length ≤ 70 ∧ ∀ r ∈ cuts ops st, r.length ≤ 8 := by
  by_cases hok : okCut ops st = true
  · obtain ⟨N, K, rfl, rfl, h1, h2, h3⟩ := okCut_spec hok
    rw [cuts_yes N K h1 h2 h3]
    have := cRows_ok h3 h2 (show K - 1 < K by omega)
    exact ⟨this.1, fun r hr => by have := (this.2 r hr).1; omega⟩
  · rw [cuts_no hok]; exact ⟨by simp, fun r hr => by simp at hr⟩

/-! what the law asks of them -/
/-- at how many places, from the first on, the two are the same -/
def diffAt : List Int → List Int → Nat
  | x :: xs, y :: ys => if x = y then diffAt xs ys + 1 else 0
  | _, _ => 0
def wantF (n : Nat) : Nat → Int
  | 0 => 1
  | i + 1 => (wantF n i * ((n : Int) - ((i + 1 : Nat) : Int))).tdiv ((i + 1 : Nat) : Int)
def chkL (n k : Nat) : Bool :=
  decide (wantF n (k - 1) = ((cAll n k).length : Int)) &&
  ((List.range k).all fun i => decide (0 ≤ wantF n i) && decide (wantF n i ≤ 100)) &&
  (List.range (cAll n k).length).all fun t =>
    ((List.range (k - 1)).all fun j => decide (1 ≤ ((cAll n k).getD t []).getD j 0) && decide (((cAll n k).getD t []).getD j 0 < (n : Int)) && (decide (j = 0) || decide (((cAll n k).getD t []).getD (j - 1) 0 < ((cAll n k).getD t []).getD j 0))) &&
    (decide (t = 0) || (decide (diffAt ((cAll n k).getD (t - 1) []) ((cAll n k).getD t []) < k - 1) &&
      decide (((cAll n k).getD (t - 1) []).getD (diffAt ((cAll n k).getD (t - 1) []) ((cAll n k).getD t [])) 0 < ((cAll n k).getD t []).getD (diffAt ((cAll n k).getD (t - 1) []) ((cAll n k).getD t [])) 0)))
theorem chkL_all : ((List.range 9).all fun ops => (List.range ops).all fun st => chkL ops (st + 1)) = true := by decide +kernel
theorem chkL_of {ops st : Nat} (ho : ops ≤ 8) (hs : 1 ≤ st) (hs' : st ≤ ops) : chkL ops st = true := by
  have h := List.all_eq_true.1 chkL_all ops (List.mem_range.2 (by omega))
  have h := List.all_eq_true.1 h (st - 1) (List.mem_range.2 (by omega))
  rwa [show st - 1 + 1 = st by omega] at h
section
variable {n k : Nat} (ho : n ≤ 8) (hs : 1 ≤ k) (hs' : k ≤ n)
include ho hs hs'
theorem want_all : wantF n (k - 1) = ((cAll n k).length : Int) := by
  have h := chkL_of ho hs hs'
  simp only [chkL, Bool.and_eq_true, decide_eq_true_eq] at h
  exact h.1.1
theorem want_bd {i : Nat} (hi : i < k) : 0 ≤ wantF n i ∧ wantF n i ≤ 100 := by
  have h := chkL_of ho hs hs'
  simp only [chkL, Bool.and_eq_true] at h
  have h := List.all_eq_true.1 h.1.2 i (List.mem_range.2 hi)
  simpa using h
theorem cut_in {t j : Nat} (ht : t < (cAll n k).length) (hj : j < k - 1) : 1 ≤ ((cAll n k).getD t []).getD j 0 ∧ ((cAll n k).getD t []).getD j 0 < (n : Int) ∧ (0 < j → ((cAll n k).getD t []).getD (j - 1) 0 < ((cAll n k).getD t []).getD j 0) := by
  have h := chkL_of ho hs hs'
  simp only [chkL, Bool.and_eq_true] at h
  have h := List.all_eq_true.1 h.2 t (List.mem_range.2 ht)
  simp only [Bool.and_eq_true] at h
  have h := List.all_eq_true.1 h.1 j (List.mem_range.2 hj)
  simp only [Bool.and_eq_true, Bool.or_eq_true, decide_eq_true_eq] at h
  exact ⟨h.1.1, h.1.2, fun h0 => h.2.resolve_left (by omega)⟩
theorem cut_less {t : Nat} (ht : t + 1 < (cAll n k).length) : diffAt ((cAll n k).getD t []) ((cAll n k).getD (t + 1) []) < k - 1 ∧
    ((cAll n k).getD t []).getD (diffAt ((cAll n k).getD t []) ((cAll n k).getD (t + 1) [])) 0 < ((cAll n k).getD (t + 1) []).getD (diffAt ((cAll n k).getD t []) ((cAll n k).getD (t + 1) [])) 0 := by
  have h := chkL_of ho hs hs'
  simp only [chkL, Bool.and_eq_true] at h
  have h := List.all_eq_true.1 h.2 (t + 1) (List.mem_range.2 ht)
  simp only [Bool.and_eq_true, Bool.or_eq_true, decide_eq_true_eq] at h
  have h2 := h.2.resolve_left (by omega)
  simpa using h2
end
theorem diff_same : ∀ (u v : List Int) (d : Nat), d < diffAt u v → u.getD d 0 = v.getD d 0
  | x :: xs, y :: ys, d, h => by
    rw [diffAt] at h
    split at h
    · rename_i hxy
      cases d with
      | zero => simpa using hxy
      | succ d => simpa using diff_same xs ys d (by omega)
    · omega
  | [], _, d, h => by simp [diffAt] at h
  | _ :: _, [], d, h => by simp [diffAt] at h
end Go.Proofs.Ytceeijbnhnpfgaa
