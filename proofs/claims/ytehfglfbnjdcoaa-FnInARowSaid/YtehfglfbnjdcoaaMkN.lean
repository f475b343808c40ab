/-
  How many marks a thing bears that came through the bulk's check; how large gradients are.
-/
import Derived.Test.YtehfglfbnjdcoaaJGive
import Derived.Test.YtehfglfbnjdcoaaPairS
import Derived.Test.YtehfglfbnjdcoaaMk
namespace Go.Proofs.Ytehfglfbnjdcoaa
open Go.RowKit
set_option maxRecDepth 100000

theorem sumN_cons (l : Nat) (ls : List Nat) : sumN (l :: ls) = l + sumN ls := rfl
theorem szD_sum : ∀ (ls : List Nat) (k : Int), 0 ≤ szD ls k → (sumN ls : Int) + szD ls k = k
  | [], k, _ => by simp [sumN, szD]
  | l :: ls, k, h => by
    rw [szD] at h ⊢
    by_cases hk : k < (l : Int)
    · rw [if_pos hk] at h; omega
    · rw [if_neg hk] at h ⊢
      have := szD_sum ls (k - l) h
      rw [sumN_cons, Int.natCast_add]
      omega
theorem szL_sum {n : Nat} {ls : List Nat} {k q : Int} (h : szL n ls k = q) (hq : 0 ≤ q) : (n : Int) + (sumN ls : Int) ≤ k := by
  rw [szL] at h
  by_cases hk : k < (n : Int)
  · rw [if_pos hk] at h; omega
  · rw [if_neg hk] at h
    have := szD_sum ls (k - n) (by omega)
    omega
theorem mkN_opF : ∀ (ds : List OpD), mkN (ds.flatMap opF) = 3 * ds.length + sumN (ds.map fun d => d.p.length)
  | [] => rfl
  | d :: ds => by
    rw [List.flatMap_cons, mkN_append, mkN_opF ds, List.length_cons, List.map_cons, sumN_cons]
    simp [opF, mkN, sz1]; omega
theorem mkN_rowF : ∀ (ds : List (List Int)), mkN (ds.flatMap rowF) = sumN (ds.map fun d => d.length)
  | [] => rfl
  | d :: ds => by
    rw [List.flatMap_cons, mkN_append, mkN_rowF ds, List.map_cons, sumN_cons]
    simp [rowF, mkN, sz1]
theorem mkN_prF : ∀ (ds : List PrD), mkN (ds.flatMap prF) = sumN (lensP ds)
  | [] => rfl
  | d :: ds => by
    have h : lensP (d :: ds) = d.x.length :: d.t.length :: lensP ds := rfl
    rw [List.flatMap_cons, mkN_append, mkN_prF ds, h, sumN_cons, sumN_cons]
    simp [prF, mkN, sz1]; omega
theorem mkN_model {w : World} {B n c : Nat} {A : Option Addr} {ds : List OpD} {k q : Int} (hR : RL 4 w B A n c (ds.flatMap opF)) (h : szL n (ds.map fun d => d.p.length) k = q) (hq : 0 ≤ q) (hk : k ≤ 1048576) : mkN (ds.flatMap opF) ≤ 4194304 := by
  have := szL_sum h hq
  rw [mkN_opF, hR.row opF_len (by omega)]
  omega
theorem mkN_rowsB {n : Nat} {ds : List (List Int)} {k q : Int} (h : szL n (ds.map fun d => d.length) k = q) (hq : 0 ≤ q) (hk : k ≤ 1048576) : mkN (ds.flatMap rowF) ≤ 1048576 := by
  have := szL_sum h hq
  rw [mkN_rowF]
  omega
theorem mkN_pairs {n : Nat} {ds : List PrD} {k q : Int} (h : szL n (lensP ds) k = q) (hq : 0 ≤ q) (hk : k ≤ 1048576) : mkN (ds.flatMap prF) ≤ 1048576 := by
  have := szL_sum h hq
  rw [mkN_prF]
  omega

/-! gradients -/
theorem flatG {P : Program} {f : Nat} {a : Array Value} {w : World} {g : GrD} {rows : List (List Int)} {loss : Int} {s : Bool} (h : Calls P f a w (GiveG w g)) (hg : g = ⟨rows, loss, s⟩) :
    Calls P f a w fun e w' => ∃ A c, e = .returned (Grv A rows.length c loss s) ∧ OwRows w' w.heap.size w'.heap.size (.slice A rows.length c) rows.length (rows.flatMap rowF) ∧ Below w.heap.size w w' := by
  subst hg; exact h
/-- small gradients: rows, their lengths, marks -/
def SmG (N L : Nat) (rows : List (List Int)) : Prop := rows.length ≤ N ∧ ∀ d ∈ rows, d.length ≤ L
theorem SmG.smR {N L : Nat} {rows : List (List Int)} (h : SmG N L rows) (hL : L ≤ 1048576) : SmR rows := fun j d hd => by
  have := h.2 d (List.mem_of_getElem? hd); omega
theorem SmG.mkN {N L : Nat} {rows : List (List Int)} (h : SmG N L rows) : mkN (rows.flatMap rowF) ≤ N * L := mkN_rows h.1 h.2
theorem zeroG_sm (ds : List OpD) : SmG 8 36 (zeroG ds).rows := by
  rw [zeroG]
  by_cases h : okMd ds = true
  · rw [if_pos h]
    refine ⟨by rw [List.length_map]; exact (okMd_len h).2, fun d hd => ?_⟩
    obtain ⟨o, ho, rfl⟩ := List.mem_map.1 hd
    obtain ⟨j, hj⟩ := List.getElem?_of_mem ho
    rw [List.length_replicate]
    exact okOd_len (okMd_op h hj)
  · rw [if_neg h]
    exact ⟨by simp, fun d hd => by simp at hd⟩
theorem mem_zip : ∀ {xs ys : List (List Int)} {d : List Int}, d ∈ List.zipWith addRow xs ys → ∃ x y, x ∈ xs ∧ y ∈ ys ∧ d = addRow x y
  | [], _, d, h => by simp at h
  | x :: xs, [], d, h => by simp at h
  | x :: xs, y :: ys, d, h => by
    rw [List.zipWith_cons_cons, List.mem_cons] at h
    rcases h with rfl | h
    · exact ⟨x, y, by simp, by simp, rfl⟩
    · obtain ⟨a, b, ha, hb, rfl⟩ := mem_zip h
      exact ⟨a, b, by simp [ha], by simp [hb], rfl⟩
theorem addRow_len (a b : List Int) : (addRow a b).length = min a.length b.length := by rw [addRow, List.length_zipWith]
theorem addG_sm {N L : Nat} {a b : GrD} (h : SmG N L a.rows) : SmG N L (addG a b).rows := by
  refine ⟨?_, fun d hd => ?_⟩
  · show (List.zipWith addRow a.rows b.rows).length ≤ N
    rw [List.length_zipWith]; have := h.1; omega
  · obtain ⟨x, y, hx, _, rfl⟩ := mem_zip hd
    rw [addRow_len]; have := h.2 x hx; omega
theorem addG_sum : ∀ (xs ys : List (List Int)), sumN ((List.zipWith addRow xs ys).map fun d => d.length) ≤ sumN (xs.map fun d => d.length)
  | [], _ => by simp [sumN]
  | x :: xs, [] => by simp [sumN]
  | x :: xs, y :: ys => by
    rw [List.zipWith_cons_cons, List.map_cons, List.map_cons, sumN_cons, sumN_cons, addRow_len]
    have := addG_sum xs ys
    omega
theorem microG_sm (ds : List OpD) (x t : List Int) : SmG 8 36 (microG ds x t).rows := by
  rw [microG]
  by_cases h : fitP ds x t = true
  · rw [if_pos h]
    have ho : okMd ds = true := by simp only [fitP, Bool.and_eq_true] at h; exact h.1.1
    refine ⟨?_, fun d hd => ?_⟩
    · show (bkR _ _ _).length ≤ 8
      rw [bkR, List.length_map, List.length_range]; exact (okMd_len ho).2
    · obtain ⟨i, _, rfl⟩ := List.mem_map.1 hd
      exact bkG_len ..
  · rw [if_neg h]
    exact ⟨by simp, fun d hd => by simp at hd⟩
theorem inpR_sm (ds : List OpD) (x : List Int) : SmG 9 6 (inpR ds x) := by
  rw [inpR]
  by_cases h : xOk ds x = true
  · rw [if_pos h]
    simp only [xOk, Bool.and_eq_true] at h
    have hx := (okV_len h.2.1).2
    refine ⟨by rw [insR_len]; have := (okMd_len h.1).2; omega, fun d hd => ?_⟩
    obtain ⟨j, hj⟩ := List.getElem?_of_mem hd
    exact insR_row ds x hx j d hj
  · rw [if_neg h]
    exact ⟨by simp, fun d hd => by simp at hd⟩
theorem flatR {P : Program} {f : Nat} {a : Array Value} {w : World} {rows r : List (List Int)} {s t : Bool} (h : Calls P f a w (GiveR w rows s)) (hr : rows = r) (hs : s = t) :
    Calls P f a w fun e w' => ∃ A c, e = .returned (.tuple #[.slice A r.length c, .bool t]) ∧ OwRows w' w.heap.size w'.heap.size (.slice A r.length c) r.length (r.flatMap rowF) ∧ Below w.heap.size w w' := by
  subst hr; subst hs; exact h
end Go.Proofs.Ytehfglfbnjdcoaa
