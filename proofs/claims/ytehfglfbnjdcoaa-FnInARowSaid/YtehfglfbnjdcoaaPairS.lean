/-
  The laws' own functions over pairs of rows of numbers, and slices of them.
-/
import Derived.Test.YtehfglfbnjdcoaaProg
import Derived.Test.YtehfglfbnjdcoaaStru
import Derived.Test.YtehfglfbnjdcoaaRec
import Derived.Test.YtehfglfbnjdcoaaMk
import Derived.WalkKit
import Derived.BigQuiet
import Derived.Lib.QuietBelow
namespace Go.Proofs.Ytehfglfbnjdcoaa
open Go.RowKit Go.Sort
set_option maxRecDepth 100000

/-- a value of the struct -/
abbrev Prv (A : Option Addr) (n c : Nat) (A' : Option Addr) (n' c' : Nat) : Value := .agg #[.slice A n c, .slice A' n' c']
/-- two rows, one behind the other -/
def OwPr (w : World) (lo hi : Nat) (A : Option Addr) (n c : Nat) (A' : Option Addr) (n' c' : Nat) (xs ys : List Int) : Prop :=
  ∃ mid, lo ≤ mid ∧ mid ≤ hi ∧ OwI w lo mid (.slice A n c) xs ∧ OwI w mid hi (.slice A' n' c') ys
section
variable {w w' : World} {lo hi lo' hi' n c n' c' : Nat} {A A' : Option Addr} {xs ys : List Int}
theorem OwPr.below (h : OwPr w lo hi A n c A' n' c' xs ys) (hb : Below w.heap.size w w') : OwPr w' lo hi A n c A' n' c' xs ys := by
  obtain ⟨mid, h1, h2, h3, h4⟩ := h
  exact ⟨mid, h1, h2, h3.below hb, h4.below hb⟩
theorem OwPr.farI (h : OwPr w lo hi A n c A' n' c' xs ys) (ho : Only (fun b => lo' ≤ b ∧ b < hi') w w') (hd : hi ≤ lo' ∨ hi' ≤ lo) : OwPr w' lo hi A n c A' n' c' xs ys := by
  obtain ⟨mid, h1, h2, h3, h4⟩ := h
  exact ⟨mid, h1, h2, h3.farI ho (by omega), h4.farI ho (by omega)⟩
theorem OwPr.more (h : OwPr w lo hi A n c A' n' c' xs ys) (h1 : lo' ≤ lo) (h2 : hi ≤ hi') : OwPr w lo' hi' A n c A' n' c' xs ys := by
  obtain ⟨mid, e1, e2, h3, h4⟩ := h
  exact ⟨mid, by omega, by omega, h3.more h1 (Nat.le_refl _), h4.more (Nat.le_refl _) h2⟩
theorem OwPr.ri1 (h : OwPr w lo hi A n c A' n' c' xs ys) : RI w hi A n c xs := by
  obtain ⟨mid, h1, h2, h3, h4⟩ := h
  exact h3.ri.more h2
theorem OwPr.ri2 (h : OwPr w lo hi A n c A' n' c' xs ys) : RI w hi A' n' c' ys := by
  obtain ⟨mid, h1, h2, h3, h4⟩ := h
  exact h4.ri
end
/-! sizes -/
theorem szD_app : ∀ (la lb : List Nat) (k : Int), 0 ≤ szD la k → szD (la ++ lb) k = szD lb (szD la k)
  | [], lb, k, _ => rfl
  | a :: la, lb, k, h => by
    rw [szD] at h
    by_cases hk : k < (a : Int)
    · rw [if_pos hk] at h; omega
    · rw [if_neg hk] at h
      rw [List.cons_append, szD, if_neg hk, szD_app la lb _ h, szD, if_neg hk]
theorem szD_app_no : ∀ (la lb : List Nat) (k : Int), 0 ≤ k → szD la k = -1 → szD (la ++ lb) k = -1
  | [], lb, k, h0, h => by rw [szD] at h; omega
  | a :: la, lb, k, h0, h => by
    rw [szD] at h
    by_cases hk : k < (a : Int)
    · rw [List.cons_append, szD, if_pos hk]
    · rw [if_neg hk] at h
      rw [List.cons_append, szD, if_neg hk, szD_app_no la lb _ (by omega) h]
def lensP (ds : List PrD) : List Nat := ds.flatMap fun d => [d.x.length, d.t.length]
theorem lensP_at {ds : List PrD} {j : Nat} {d : PrD} (h : ds[j]? = some d) : d.x.length ∈ lensP ds ∧ d.t.length ∈ lensP ds := by
  have hm := List.mem_of_getElem? h
  exact ⟨List.mem_flatMap.2 ⟨d, hm, by simp⟩, List.mem_flatMap.2 ⟨d, hm, by simp⟩⟩
theorem lensP_take {ds : List PrD} {j : Nat} {d : PrD} (h : ds[j]? = some d) : lensP (ds.take (j + 1)) = lensP (ds.take j) ++ [d.x.length, d.t.length] := by
  obtain ⟨hj, he⟩ := List.getElem?_eq_some_iff.1 h
  rw [lensP, List.take_succ_eq_append_getElem hj, List.flatMap_append, he]; rfl
theorem lensP_split (ds : List PrD) (j : Nat) : lensP ds = lensP (ds.take j) ++ lensP (ds.drop j) := by
  rw [lensP, lensP, lensP, ← List.flatMap_append, List.take_append_drop]
theorem szP_case (n n' : Nat) (k : Int) (h : 0 ≤ k) : szD [n, n'] k = -1 ∨ (0 ≤ szD [n, n'] k ∧ (n : Int) ≤ k ∧ (n' : Int) ≤ k ∧ szD [n, n'] k ≤ k) := by
  rcases szD_case [n, n'] k h with h1 | ⟨h1, h2, h3⟩
  · exact .inl h1
  · exact .inr ⟨h1, h3 0 n rfl, h3 1 n' rfl, h2⟩
theorem lensP_mem {ds : List PrD} {l : Nat} (h : l ∈ lensP ds) : ∃ (j : Nat) (d : PrD), ds[j]? = some d ∧ (l = d.x.length ∨ l = d.t.length) := by
  obtain ⟨d, hd, hl⟩ := List.mem_flatMap.1 h
  obtain ⟨j, hj⟩ := List.getElem?_of_mem hd
  exact ⟨j, d, hj, by simpa using hl⟩
theorem lensP_hg {ds : List PrD} {M : Int} (h : ∀ (j : Nat) (a : PrD), ds[j]? = some a → (a.x.length : Int) ≤ M ∧ (a.t.length : Int) ≤ M) : ∀ (j : Nat) (l : Nat), (lensP ds)[j]? = some l → (l : Int) ≤ M := by
  intro j l hj
  obtain ⟨i, d, hd, hl⟩ := lensP_mem (List.mem_of_getElem? hj)
  rcases hl with rfl | rfl
  · exact (h i d hd).1
  · exact (h i d hd).2
theorem smP_of {ds : List PrD} {k : Int} (hk : k ≤ 1048576) (h : ∀ (j : Nat) (l : Nat), (lensP ds)[j]? = some l → (l : Int) ≤ k) : SmP ds := fun j d hd => by
  obtain ⟨m1, m2⟩ := lensP_at hd
  obtain ⟨j1, e1⟩ := List.getElem?_of_mem m1
  obtain ⟨j2, e2⟩ := List.getElem?_of_mem m2
  have := h j1 _ e1
  have := h j2 _ e2
  omega

theorem laws_toPair {B n c B' n' c' : Nat} {A A' : Option Addr} {xs ys : List Int} (w : World) (h : RI w B A n c xs) (h' : RI w B' A' n' c' ys) (hB : B ≤ w.heap.size) (hB' : B' ≤ w.heap.size) (hx : xs.length ≤ 1048576) (hy : ys.length ≤ 1048576) :
    Calls Try.prog 18 #[Prv A n c A' n' c'] w fun e w' => ∃ A1 n1 c1 A2 n2 c2, e = .returned (Prv A1 n1 c1 A2 n2 c2) ∧ OwPr w' w.heap.size w'.heap.size A1 n1 c1 A2 n2 c2 xs ys ∧ Below w.heap.size w w' := by
  have HX := hide hx
  have HY := hide hy
  clear hx hy
  go_enter Try.func18, Try.ntmps18
  go_wp2_with fail
  obtain ⟨w1, hw1⟩ : ∃ w1, w1 = (w.alloc (.cells #[.slice A n c, .slice A' n' c'] 27)) := ⟨_, rfl⟩
  obtain ⟨w2, hw2⟩ : ∃ w2, w2 = (w1.alloc (.cells #[.slice none 0 0, .slice none 0 0] 38)) := ⟨_, rfl⟩
  obtain ⟨w3, hw3⟩ : ∃ w3, w3 = (w2.alloc (.cells #[.slice none 0 0, .slice none 0 0] 38)) := ⟨_, rfl⟩
  have s1 : w1.heap.size = w.heap.size + 1 := by rw [hw1]; simp
  have s2 : w2.heap.size = w.heap.size + 1 + 1 := by rw [hw2]; simp [s1]
  have s3 : w3.heap.size = w.heap.size + 1 + 1 + 1 := by rw [hw3]; simp [s2]
  have hb1 : Below w.heap.size w w1 := hw1 ▸ (Below.refl _ _).alloc (Nat.le_refl _) _
  have hb2 : Below w.heap.size w w2 := hw2 ▸ hb1.alloc (by omega) _
  have hb3 : Below w.heap.size w w3 := hw3 ▸ hb2.alloc (by omega) _
  have p1 : w3.heap[w.heap.size]? = some (.cells #[.slice A n c, .slice A' n' c'] 27 (0, 0)) := by
    rw [hw3, Below.heap_alloc _ _ _ (by omega), hw2, Below.heap_alloc _ _ _ (by omega), hw1]; exact heap_alloc_new _ _
  have p2 : w3.heap[w.heap.size + 1]? = some (.cells #[.slice none 0 0, .slice none 0 0] 38 (0, 0)) := by
    rw [hw3, Below.heap_alloc _ _ _ (by omega), ← s1, hw2]; exact heap_alloc_new _ _
  have p3 : w3.heap[w.heap.size + 1 + 1]? = some (.cells #[.slice none 0 0, .slice none 0 0] 38 (0, 0)) := by
    rw [hw3, ← s2]; exact heap_alloc_new _ _
  rw [← hw1, ← hw2, ← hw3]
  clear hw1 hw2 hw3 hb1 hb2 s1 s2
  refine (toI w3 (h.below (hb3.mono hB)) (by omega) HX.out).mono ?_
  rintro e w4 ⟨A1, n1, c1, rfl, hO, hb4⟩
  have s4 := hb4.size
  replace p1 := (hb4.block _ (by omega)).trans p1
  replace p2 := (hb4.block _ (by omega)).trans p2
  replace p3 := (hb4.block _ (by omega)).trans p3
  have hb34 := hb3.trans (hb4.mono (by omega))
  have q0 := blk_cell p3 0
  have z0 := blk_free p3 0
  have y1 := blk_cell p1 1
  simp at q0 y1
  have hb5 : Below w.heap.size w (w4.setCell ⟨w.heap.size + 1 + 1, 0, none⟩ (.slice A1 n1 c1)) := below_set hb34 _ _ (by omega) _
  have ho5 : Only (fun b => b < w3.heap.size) w4 (w4.setCell ⟨w.heap.size + 1 + 1, 0, none⟩ (.slice A1 n1 c1)) := onlySet (Only.refl _ w4) (a := ⟨w.heap.size + 1 + 1, 0, none⟩) (by show w.heap.size + 1 + 1 < w3.heap.size; omega) _
  have hs5 := ho5.size
  have hO5 := (hO.only ho5 (fun k h1 h2 h3 => by have h4 : k < w3.heap.size := h3; omega))
  have z5 : (w4.setCell ⟨w.heap.size + 1 + 1, 0, none⟩ (.slice A1 n1 c1)).heap.size = w4.heap.size := by simp [World.setCell]
  have P1 := hide p1
  have P2 := hide p2
  have P3 := hide p3
  clear p1 p2 p3 h
  go_wp2_with fail
  obtain ⟨w5, hw5⟩ : ∃ w5, w5 = (w4.setCell ⟨w.heap.size + 1 + 1, 0, none⟩ (.slice A1 n1 c1)) := ⟨_, rfl⟩
  have p2 := blk_far P2.out (b := w.heap.size + 1 + 1) (j := 0) (by omega) (.slice A1 n1 c1)
  have p3 := blk_set P3.out 0 (.slice A1 n1 c1)
  rw [← hw5] at hb5 ho5 hs5 hO5 z5 p2 p3 ⊢
  clear hw5 P1 P2 P3 q0 z0 y1
  refine (toI w5 (h'.below (hb5.mono hB')) (by omega) HY.out).mono ?_
  rintro e w6 ⟨A2, n2, c2, rfl, hO2, hb6⟩
  have s6 := hb6.size
  replace p2 := (hb6.block _ (by omega)).trans p2
  replace p3 := (hb6.block _ (by omega)).trans p3
  replace hO5 := hO5.below hb6
  have hb56 := hb5.trans (hb6.mono (by omega))
  have q0 := blk_cell p3 0
  have q1 := blk_cell p3 1
  have z0 := blk_free p3 0
  have z1 := blk_free p3 1
  have t0 := blk_cell p2 0
  have t1 := blk_cell p2 1
  have g0 := blk_free p2 0
  have g1 := blk_free p2 1
  simp at q0 q1 t0 t1
  have P2 := hide p2
  clear p2 p3 h' hb6 ho5
  go_wp2_with fail
  refine bodyPost_ret (results_cell_row (P := Try.prog) (d := _) rfl _ _ (w.heap.size + 1) 38 #[.slice A1 n1 c1, .slice A2 n2 c2] (0, 0) rfl ?_ Try.underlying38 rfl rfl) rfl ?_
  · exact blk_set (blk_set (blk_far P2.out (by omega) _) 0 _) 1 _
  · have ho7 := onlySet (p := fun b => w.heap.size ≤ b ∧ b < w3.heap.size) (onlySet (p := fun b => w.heap.size ≤ b ∧ b < w3.heap.size) (onlySet (p := fun b => w.heap.size ≤ b ∧ b < w3.heap.size) (Only.refl _ w6) (a := ⟨w.heap.size + 1 + 1, 1, none⟩) ⟨show w.heap.size ≤ w.heap.size + 1 + 1 by omega, show w.heap.size + 1 + 1 < w3.heap.size by omega⟩ (.slice A2 n2 c2)) (a := ⟨w.heap.size + 1, 0, none⟩) ⟨show w.heap.size ≤ w.heap.size + 1 by omega, show w.heap.size + 1 < w3.heap.size by omega⟩ (.slice A1 n1 c1)) (a := ⟨w.heap.size + 1, 1, none⟩) ⟨show w.heap.size ≤ w.heap.size + 1 by omega, show w.heap.size + 1 < w3.heap.size by omega⟩ (.slice A2 n2 c2)
    have hs7 := ho7.size
    exact ⟨A1, n1, c1, A2, n2, c2, rfl, ⟨w4.heap.size, by omega, by omega, (hO5.only ho7 (fun k h1 h2 h3 => by have h4 : w.heap.size ≤ k ∧ k < w3.heap.size := h3; omega)).more (by omega) (Nat.le_refl _), (hO2.only ho7 (fun k h1 h2 h3 => by have h4 : w.heap.size ≤ k ∧ k < w3.heap.size := h3; omega)).more (by omega) hs7⟩, hb56.trans (ho7.below (by omega) (fun k hk h3 => by have h4 : w.heap.size ≤ k ∧ k < w3.heap.size := h3; omega))⟩
theorem laws_szPair (A : Option Addr) (n c : Nat) (A' : Option Addr) (n' c' : Nat) (k0 : Int) (w : World) (h0 : 0 ≤ k0) (h1 : k0 ≤ 1048576) (hn : (n : Int) ≤ 9223372036854775807) (hn' : (n' : Int) ≤ 9223372036854775807) :
    Calls Try.prog 15 #[Prv A n c A' n' c', .int .i64 k0] w fun e w' => e = .returned (.int .i64 (szD [n, n'] k0)) ∧ Below w.heap.size w w' := by
  have HB := hide (show Below w.heap.size w (w.alloc (.cells #[.slice A n c, .slice A' n' c'] 27)) from (Below.refl _ _).alloc (Nat.le_refl _) _)
  have HS := hide (laws_szIntS A n c k0 (w.alloc (.cells #[.slice A n c, .slice A' n' c'] 27)) h0 h1 hn)
  have hcase := szF_case n k0
  have HR := hide (show szD [n, n'] k0 = if szF n k0 < 0 then -1 else szF n' (szF n k0) from by
    rw [szD, szF]
    by_cases hk : k0 < (n : Int)
    · rw [if_pos hk, if_pos hk]; rfl
    · rw [if_neg hk, if_neg hk, if_neg (by omega)]; rfl)
  obtain ⟨q, hq⟩ : ∃ q, szF n k0 = q := ⟨_, rfl⟩
  rw [hq] at hcase HS HR
  obtain ⟨r, hr⟩ : ∃ r, szD [n, n'] k0 = r := ⟨_, rfl⟩
  rw [hr] at HR ⊢
  clear hr hn hq
  rcases hcase with rfl | ⟨hq0, _, hq1⟩
  · clear h0 h1 hn'
    obtain rfl : r = -1 := HR.out
    go_enter Try.func15, Try.ntmps15
    go_wp2_with fail
    refine HS.out.mono ?_
    rintro e w' ⟨rfl, rfl⟩
    go_wp2
    go_ret
    exact ⟨rfl, HB.out⟩
  · have HS2 := hide (laws_szIntS A' n' c' q (w.alloc (.cells #[.slice A n c, .slice A' n' c'] 27)) hq0 (by omega) hn')
    have hcase := szF_case n' q
    obtain ⟨q2, hq2⟩ : ∃ q2, szF n' q = q2 := ⟨_, rfl⟩
    rw [hq2] at hcase HS2
    obtain rfl : r = q2 := by rw [HR.out, if_neg (by omega), hq2]
    have hcase : r = -1 ∨ 0 ≤ r := by omega
    clear HR hn' hq2 h0 h1
    go_enter Try.func15, Try.ntmps15
    go_wp2_with fail
    refine HS.out.mono ?_
    rintro e w' ⟨rfl, rfl⟩
    go_wp2_with fail
    refine HS2.out.mono ?_
    rintro e w' ⟨rfl, rfl⟩
    rcases hcase with rfl | hq0
    · go_wp2
      go_ret
      exact ⟨rfl, HB.out⟩
    · go_wp2
      go_ret
      exact ⟨rfl, HB.out⟩
theorem laws_eqPair {B n c B' n' c' D m d D' m' d' : Nat} {A A' C C' : Option Addr} {xs ys : List Int} (w : World) (h : RI w B A n c xs) (h' : RI w B' A' n' c' ys) (g : RI w D C m d xs) (g' : RI w D' C' m' d' ys) (hB : B ≤ w.heap.size) (hB' : B' ≤ w.heap.size) (hD : D ≤ w.heap.size) (hD' : D' ≤ w.heap.size) (hx : xs.length ≤ 1048576) (hy : ys.length ≤ 1048576) :
    Calls Try.prog 22 #[Prv A n c A' n' c', Prv C m d C' m' d'] w fun e w' => e = .returned (.bool true) ∧ Below w.heap.size w w' := by
  obtain ⟨wb, hwb⟩ : ∃ wb, wb = ((w.alloc (.cells #[.slice A n c, .slice A' n' c'] 38)).alloc (.cells #[.slice C m d, .slice C' m' d'] 38)) := ⟨_, rfl⟩
  have hb : Below w.heap.size w wb := hwb ▸ (((Below.refl _ _).alloc (Nat.le_refl _) _).alloc (by simp) _)
  have x1 : wb.cell? ⟨w.heap.size, 1, none⟩ = some (.slice A' n' c') := by rw [hwb]; simp
  have y1 : wb.cell? ⟨w.heap.size + 1, 1, none⟩ = some (.slice C' m' d') := by rw [hwb]; simp
  have hsb := hb.size
  have HE := hide (eqI_same wb (h.below (hb.mono hB)) (g.below (hb.mono hD)) hx)
  have HE2 := hide (fun (W : World) (hW : Below wb.heap.size wb W) => eqI_same W ((h'.below (hb.mono hB')).below (hW.mono (by omega))) ((g'.below (hb.mono hD')).below (hW.mono (by omega))) hy)
  have HB := hide hb
  have HW := hide hwb
  clear h h' g g' hx hy hb hwb hsb
  go_enter Try.func22, Try.ntmps22
  go_wp2_with fail
  rw [← HW.out]
  refine HE.out.mono ?_
  rintro e w2 ⟨rfl, hb2⟩
  replace x1 := cellB hb2 x1
  replace y1 := cellB hb2 y1
  have HB2 := hide hb2
  clear hb2
  go_wp2_with fail
  refine (HE2.out w2 HB2.out).mono ?_
  rintro e w3 ⟨rfl, hb3⟩
  have HB3 := hide (HB.out.trans ((HB2.out.trans (hb3.mono HB2.out.size)).mono HB.out.size))
  clear hb3
  go_wp2_with fail
  go_ret
  exact ⟨rfl, HB3.out⟩
theorem laws_markPair {lo hi n c n' c' : Nat} {A A' : Option Addr} {xs ys : List Int} (k0 : Int) (w : World) (h : OwPr w lo hi A n c A' n' c' xs ys) (hx : xs.length ≤ 1048576) (hy : ys.length ≤ 1048576) (hk0 : 0 ≤ k0) (hk1 : k0 + ((xs.length : Int) + (ys.length : Int)) ≤ 1000000000000) :
    Calls Try.prog 24 #[Prv A n c A' n' c', .int .i64 k0] w fun e w' => e = .returned (.int .i64 (k0 + ((xs.length : Int) + (ys.length : Int)))) ∧ OwPr w' lo hi A n c A' n' c' (marks k0 xs.length) (marks (k0 + xs.length) ys.length) ∧ Only (fun b => lo ≤ b ∧ b < hi) w w' := by
  have hb : Below w.heap.size w (w.alloc (.cells #[.slice A n c, .slice A' n' c'] 38)) := (Below.refl _ _).alloc (Nat.le_refl _) _
  obtain ⟨wb, hwb⟩ : ∃ wb, wb = (w.alloc (.cells #[.slice A n c, .slice A' n' c'] 38)) := ⟨_, rfl⟩
  have x1 : wb.cell? ⟨w.heap.size, 1, none⟩ = some (.slice A' n' c') := by rw [hwb]; simp
  rw [← hwb] at hb
  obtain ⟨mid, hm1, hm2, ho1, ho2⟩ := h.below hb
  have hlt : hi ≤ w.heap.size ∨ w.heap.size < lo ∨ (lo ≤ w.heap.size ∧ w.heap.size < hi) := by omega
  obtain ⟨m0, e1, e2, e3, e4⟩ := h
  have HM := hide (laws_markIntS k0 wb ho1 hx hk0 (by omega))
  have HM2 := hide (fun (W : World) (h : OwI W mid hi (.slice A' n' c') ys) => laws_markIntS (k0 + (xs.length : Int)) W h hy (by omega) (by omega))
  have HL : ∀ b, (Value.slice A n c).ownBlock = some b → lo ≤ b ∧ b < mid ∧ b < w.heap.size := fun b hb => ⟨(ho1.1.lt b hb).1, ho1.2 b hb, (e3.1.lt b hb).2⟩
  have HL' : ∀ b, (Value.slice A' n' c').ownBlock = some b → mid ≤ b ∧ b < hi := fun b hb => ⟨(ho2.1.lt b hb).1, ho2.2 b hb⟩
  have H2 := hide ho2
  have HB := hide hb
  have HW := hide hwb
  have HLL := hide HL
  have HLL' := hide HL'
  obtain ⟨q, hq⟩ : ∃ q : Int, k0 + (xs.length : Int) = q := ⟨_, rfl⟩
  obtain ⟨r, hr⟩ : ∃ r : Int, q + (ys.length : Int) = r := ⟨_, rfl⟩
  have hqr : k0 + ((xs.length : Int) + (ys.length : Int)) = r := by omega
  rw [hq] at HM HM2 ⊢
  rw [hr] at HM2
  rw [hqr]
  clear ho1 ho2 hb hwb hx hy hk0 hk1 hq hr hqr HL HL' e3 e4 hlt
  go_enter Try.func24, Try.ntmps24
  go_wp2_with fail
  rw [← HW.out]
  refine HM.out.mono ?_
  rintro e w2 ⟨rfl, ho, hm⟩
  have hsz : w.heap.size < wb.heap.size := by rw [HW.out]; simp
  replace x1 : w2.cell? ⟨w.heap.size, 1, none⟩ = some (.slice A' n' c') := by
    rw [hm.cell (a := ⟨w.heap.size, 1, none⟩) hsz (fun h => by have h2 := (HLL.out _ h).2.2; exact absurd h2 (Nat.lt_irrefl _))]; exact x1
  have H3 := hide (HM2.out w2 (H2.out.only hm (fun k h1 h2 h3 => by have := (HLL.out k h3); omega)))
  have HO := hide ho
  have HO2 := hide hm
  clear ho hm HM HM2
  go_wp2_with fail
  refine H3.out.mono ?_
  rintro e w3 ⟨rfl, ho, hm⟩
  have HO' := hide ho
  have HM' := hide hm
  clear ho hm H3
  go_wp2_with fail
  go_ret
  refine ⟨rfl, ⟨mid, hm1, hm2, HO.out.only HM'.out (fun k h1 h2 h3 => by have := HLL'.out k h3; omega), HO'.out⟩, ((Only.of_below HB.out).trans (HO2.out.mono fun b hb => ?_)).trans (HM'.out.mono fun b hb => ?_)⟩
  · have := HLL.out b hb; omega
  · have := HLL'.out b hb; omega
abbrev OwPrs := OL 3 38 2
theorem pair_info : (Try.prog.info? 38).map (fun i => (i.zero, i.size, i.bytes)) = some (some (.agg #[.slice none 0 0, .slice none 0 0]), 2, 48) := by kernel_rfl
def zPr : PrD := ⟨[], []⟩
theorem madePair (w : World) (n : Nat) (hn : n ≤ 1048576) : OwPrs (w.alloc (.cells (madeCells #[.slice none 0 0, .slice none 0 0] (n * 2)) 38)) w.heap.size (w.heap.size + 1) (.slice (some ⟨w.heap.size, 0, none⟩) n n) n ((List.replicate n zPr).flatMap prF) := by
  refine OL.made w prF zPr (by omega) prF_len _ rfl hn (fun i v f hv hf W lo hi => ?_) (fun i v hv => ?_)
  · match i with
    | 0 => simp at hv; simp [prF, zPr] at hf; subst hv; subst hf; exact OI.nil _ _ _ _
    | 1 => simp at hv; simp [prF, zPr] at hf; subst hv; subst hf; exact OI.nil _ _ _ _
    | i + 2 => simp at hv
  · match i with
    | 0 => simp at hv; subst hv; rfl
    | 1 => simp at hv; subst hv; rfl
    | i + 2 => simp at hv
set_option maxHeartbeats 1000000 in
theorem laws_toPairS {B n c : Nat} {A : Option Addr} {ds : List PrD} (w : World) (h : RL 2 w B A n c (ds.flatMap prF)) (hB : B ≤ w.heap.size) (hn : n ≤ 1048576) (hsm : SmP ds) :
    Calls Try.prog 54 #[.slice A n c] w fun e w' => ∃ A' c', e = .returned (.slice A' n c') ∧ OwPrs w' w.heap.size w'.heap.size (.slice A' n c') n (ds.flatMap prF) ∧ Below w.heap.size w w' := by
  have hmk := fun W' : World => run_make_recs (P := Try.prog) 80 38 _ _ _ Try.underlying80 pair_info n (by omega) (by omega) W'
  have hl := hide (h.row prF_len (by omega))
  have hmade := hide (madePair w n hn)
  have HSM := hide hsm
  clear hsm
  go_enter Try.func54, Try.ntmps54
  go_wp2
  go_loopw [4] (fun i wr => ∃ k : Nat, k ≤ n ∧ i = .int .i64 (k : Int) ∧ OwPrs wr w.heap.size wr.heap.size (.slice (some ⟨w.heap.size, 0, none⟩) n n) n ((ds.take k ++ List.replicate (n - k) zPr).flatMap prF) ∧ Below w.heap.size w wr)
    (fun i _ => n - (intOf i).toNat)
  case atStart => exact ⟨0, Nat.zero_le _, rfl, by simpa using hmade.out.more (Nat.le_refl _) (by simp), (Below.refl _ _).alloc (Nat.le_refl _) _⟩
  case round =>
    obtain ⟨k, hk, rfl, hown, hb⟩ := hrel
    by_cases hlt : k < n
    · obtain ⟨b, off, d, A1, n1, c1, A3, n3, c3, rfl, hbB, hd, e0, hR, e1, hR2⟩ := h.prAt hlt
      have hbw : b < w.heap.size := by omega
      have y0 := (hb.cell (p := ⟨b, off + k * 2, none⟩) hbw).trans e0
      have y1 := (hb.cell (p := ⟨b, off + k * 2 + 1, none⟩) hbw).trans e1
      have HT := hide (laws_toPair wr (hR.below (hb.mono hB)) (hR2.below (hb.mono hB)) (by have := hb.size; omega) (by have := hb.size; omega) (HSM.out k d hd).1 (HSM.out k d hd).2)
      have HD := hide hd
      clear e0 e1 h hR hR2 hd
      go_wp2_with fail
      refine HT.out.mono ?_
      rintro e w1 ⟨A2, n2, c2, A4, n4, c4, rfl, ⟨mid, hm1, hm2, hO, hO2⟩, hb1⟩
      have hown1 := hown.below hb1
      have hg : ∀ i f, i < 2 → (prF zPr)[i]? = some f → ((ds.take k ++ List.replicate (n - k) zPr).flatMap prF)[k * 2 + i]? = some f := fun i f hi hf => by
        rw [flat_get prF 2 prF_len _ k i zPr (get_takeD ds zPr k n hl.out hlt) hi]; exact hf
      obtain ⟨u0, q0, f0, _⟩ := hown1.at_ (hg 0 _ (by omega) rfl)
      obtain ⟨u1, q1, f1, _⟩ := hown1.at_ (hg 1 _ (by omega) rfl)
      rw [Nat.add_zero] at q0 f0
      have hbl := (hown.lt w.heap.size rfl).2.2
      have hfl := flat_len prF 2 prF_len (ds.take k ++ List.replicate (n - k) zPr)
      rw [len_takeD ds zPr k n hl.out (by omega)] at hfl
      have p0 := hown1.put (p := k * 2) (f := .s d.x) (u := .slice A2 n2 c2) (hi := mid) (by omega) rfl hO hm1
      have on3 : Only (fun b => b = w.heap.size) w1 (w1.setCell ⟨w.heap.size, k * 2, none⟩ (.slice A2 n2 c2)) :=
        (Only.refl (fun b => b = w.heap.size) w1).set w.heap.size (k * 2) rfl _
      have p1 := p0.put (p := k * 2 + 1) (f := .s d.t) (u := .slice A4 n4 c4) (hi := w1.heap.size) (by rw [List.length_set]; omega) rfl (hO2.only on3 fun q h1 h2 h3 => by have h4 : q = w.heap.size := h3; omega) (by omega)
      have e4 := putAt_flat prF 2 prF_len (ds.take k ++ List.replicate (n - k) zPr) k d (by rw [len_takeD ds zPr k n hl.out (by omega)]; exact hlt)
      rw [set_takeD ds zPr d k n hl.out HD.out] at e4
      have P3 := hide p1
      have E4 := hide e4
      have HBB := hide (hb.trans (hb1.mono hb.size))
      clear p0 p1 on3 e4 hown hown1 hO hO2 hg hb hb1 hfl HT
      go_wp2_with fail
      go_roundw
      case rel =>
        have q := P3.out
        have e := E4.out
        simp only [putAt, prF] at e
        exact ⟨k + 1, by omega, by go_num, by rw [← e]; simpa using q, below_set (below_set HBB.out _ _ (Nat.le_refl _) _) _ _ (Nat.le_refl _) _⟩
      case measure => simp [intOf]; omega
    · have HO := hide hown
      have hb' := hide hb
      clear hown hb h
      go_wp2_with fail
      go_ret
      exact ⟨_, _, rfl, by have := HO.out; rw [take_allD ds zPr n k hl.out (by omega)] at this; exact this, hb'.out⟩
theorem laws_szPairS {B n c : Nat} {A : Option Addr} {ds : List PrD} (k0 : Int) (w : World) (h : RL 2 w B A n c (ds.flatMap prF)) (hB : B ≤ w.heap.size) (h0 : 0 ≤ k0) (h1 : k0 ≤ 1048576) (hn : (n : Int) ≤ 9223372036854775807)
    (hsm : ∀ (j : Nat) (l : Nat), (lensP ds)[j]? = some l → (l : Int) ≤ 9223372036854775807) :
    Calls Try.prog 52 #[.slice A n c, .int .i64 k0] w fun e w' => e = .returned (.int .i64 (szL n (lensP ds) k0)) ∧ Below w.heap.size w w' := by
  have hl := hide (h.row prF_len (by omega))
  have HSM := hide (fun (j : Nat) (d : PrD) (hd : ds[j]? = some d) => show (d.x.length : Int) ≤ 9223372036854775807 ∧ (d.t.length : Int) ≤ 9223372036854775807 from by
    obtain ⟨m1, m2⟩ := lensP_at hd
    obtain ⟨j1, e1⟩ := List.getElem?_of_mem m1
    obtain ⟨j2, e2⟩ := List.getElem?_of_mem m2
    exact ⟨hsm j1 _ e1, hsm j2 _ e2⟩)
  clear hsm
  by_cases hk0 : k0 < (n : Int)
  · have HN := hide hk0
    have hs : Go.RowKit.wrap64 (k0 - (n : Int)) = k0 - (n : Int) := by unfold Go.RowKit.wrap64; omega
    clear h
    go_enter Try.func52, Try.ntmps52
    go_wp2
    go_ret
    exact ⟨rI (by rw [szL, if_pos HN.out]), Below.refl _ _⟩
  have hn1 : n ≤ 1048576 := by omega
  obtain ⟨q0, hq0⟩ : ∃ q0, k0 - (n : Int) = q0 := ⟨_, rfl⟩
  have hq00 : 0 ≤ q0 := by omega
  have hq01 : q0 ≤ 1048576 := by omega
  have HK := hide (show szL n (lensP ds) k0 = szD (lensP ds) q0 from by rw [szL, if_neg hk0, hq0])
  have HQ0 := hide hq0
  clear hq0 hn
  go_enter Try.func52, Try.ntmps52
  go_wp2
  go_loopw [1, 5] (fun q i wr => ∃ k : Nat, k ≤ n ∧ i = .int .i64 (k : Int) ∧ (∃ z, q = .int .i64 z ∧ 0 ≤ z ∧ z ≤ 1048576 ∧ Hid (z = szD (lensP (ds.take k)) q0)) ∧ Below w.heap.size w wr)
    (fun _ i _ => n - (intOf i).toNat)
  case atStart => exact ⟨0, Nat.zero_le _, rfl, ⟨k0 - (n : Int), rfl, by omega, by omega, HQ0.out⟩, Below.refl _ _⟩
  case round =>
    obtain ⟨k, hk, rfl, ⟨z, rfl, hz0, hz1, hz⟩, hb⟩ := hrel
    by_cases hlt : k < n
    · obtain ⟨b, off, d, A1, n1, c1, A3, n3, c3, rfl, hbB, hd, e0, hR, e1, hR2⟩ := h.prAt hlt
      have hbw : b < w.heap.size := by omega
      have y0 := (hb.cell (p := ⟨b, off + k * 2, none⟩) hbw).trans e0
      have y1 := (hb.cell (p := ⟨b, off + k * 2 + 1, none⟩) hbw).trans e1
      have hst : szD (lensP (ds.take (k + 1))) q0 = szD [n1, n3] z := by
        rw [lensP_take hd, szD_app _ _ _ (by rw [← hz.out]; exact hz0), ← hz.out, hR.1, hR2.1]
      have hsmd := HSM.out k d hd
      rw [hR.1, hR2.1] at hsmd
      have HZ := hide (laws_szPair A1 n1 c1 A3 n3 c3 z wr hz0 hz1 hsmd.1 hsmd.2)
      have hcase := szP_case n1 n3 z hz0
      obtain ⟨z', hz'⟩ : ∃ z', szD [n1, n3] z = z' := ⟨_, rfl⟩
      rw [hz'] at HZ hcase hst
      have HST := hide hst
      clear hst hz' hd e0 e1 h hsmd hR hR2
      rcases hcase with rfl | ⟨hc0, _, _, hc2⟩
      · go_wp2_with fail
        refine HZ.out.mono ?_
        rintro e w1 ⟨rfl, hb1⟩
        go_wp2_with fail
        go_ret
        exact ⟨rI (by rw [HK.out, lensP_split ds (k + 1)]; exact (szD_app_no _ _ q0 hq00 HST.out).symm), hb.trans (hb1.mono hb.size)⟩
      · go_wp2_with fail
        refine HZ.out.mono ?_
        rintro e w1 ⟨rfl, hb1⟩
        go_wp2_with fail
        go_roundw
        case rel => exact ⟨k + 1, by omega, by go_num, ⟨z', rfl, hc0, by omega, HST.out.symm⟩, hb.trans (hb1.mono hb.size)⟩
        case measure => simp [intOf]; omega
    · have hkn : n ≤ k := by omega
      clear h
      go_wp2_with fail
      go_ret
      exact ⟨rI (by rw [HK.out, hz.out, List.take_of_length_le (by rw [hl.out]; exact hkn)]), hb⟩
theorem laws_eqPairS {B n c B' n' c' : Nat} {A A' : Option Addr} {ds : List PrD} (w : World) (h : RL 2 w B A n c (ds.flatMap prF)) (h' : RL 2 w B' A' n' c' (ds.flatMap prF)) (hB : B ≤ w.heap.size) (hB' : B' ≤ w.heap.size) (hn : n ≤ 1048576) (hsm : SmP ds) :
    Calls Try.prog 56 #[.slice A n c, .slice A' n' c'] w fun e w' => e = .returned (.bool true) ∧ Below w.heap.size w w' := by
  have hl := hide (h.row prF_len (by omega))
  obtain rfl : n = n' := by have := h'.row prF_len (by omega); rw [← hl.out]; exact this
  have HSM := hide hsm
  clear hsm
  go_enter Try.func56, Try.ntmps56
  go_wp2
  go_loopw [5] (fun i wr => ∃ k : Nat, k ≤ n ∧ i = .int .i64 (k : Int) ∧ Below w.heap.size w wr)
    (fun i _ => n - (intOf i).toNat)
  case atStart => exact ⟨0, Nat.zero_le _, rfl, Below.refl _ _⟩
  case round =>
    obtain ⟨k, hk, rfl, hb⟩ := hrel
    have hsz := hb.size
    by_cases hlt : k < n
    · obtain ⟨b, off, d, A1, n1, c1, A3, n3, c3, rfl, hbB, hd, e0, hR, e1, hR'⟩ := h.prAt hlt
      obtain ⟨b2, off2, d2, A2, n2, c2, A4, n4, c4, rfl, hbB2, hd2, g0, hR2, g1, hR2'⟩ := h'.prAt hlt
      obtain rfl : d = d2 := by rw [hd] at hd2; simpa using hd2
      have hbw : b < w.heap.size := by omega
      have hbw2 : b2 < w.heap.size := by omega
      have h1 : (0 : Int) ≤ (k : Int) := by omega
      have h2 : (k : Int) < (n : Int) := by omega
      have y0 := cell_regrown ((hb.cell (p := ⟨b, off + k * 2, none⟩) hbw).trans e0)
      have y1 := cell_regrown ((hb.cell (p := ⟨b, off + k * 2 + 1, none⟩) hbw).trans e1)
      have z0 := cell_regrown ((hb.cell (p := ⟨b2, off2 + k * 2, none⟩) hbw2).trans g0)
      have z1 := cell_regrown ((hb.cell (p := ⟨b2, off2 + k * 2 + 1, none⟩) hbw2).trans g1)
      have HR1 := hR.below (hb.mono hB)
      have HR1' := hR'.below (hb.mono hB)
      have HR2 := hR2.below (hb.mono hB')
      have HR2' := hR2'.below (hb.mono hB')
      have cE : ∀ d1 os, Calls Try.prog 22 #[Prv A1 n1 c1 A3 n3 c3, Prv A2 n2 c2 A4 n4 c4] (grow (redrawn wr d1) os) fun e w'' => e = .returned (.bool true) ∧ ∃ p : Regrown, w'' = grow (redrawn wr p.d) p.os :=
        fun d1 os => have hq := below_regrown wr d1 os
          have hqs := hq.size
          Calls.regrown_of (laws_eqPair _ (HR1.below (hq.mono (by omega))) (HR1'.below (hq.mono (by omega))) (HR2.below (hq.mono (by omega))) (HR2'.below (hq.mono (by omega))) (by omega) (by omega) (by omega) (by omega) (HSM.out k d hd).1 (HSM.out k d hd).2)
      have CE := hide cE
      clear cE e0 e1 g0 g1 h h' hR hR' hR2 hR2' hd hd2 HR1 HR1' HR2 HR2'
      go_wp2_with fail
      refine wp_region_quiet_below (by kernel_rfl) (by kernel_rfl) ?_
      repeat (go_big_quiet_step (first | with_reducible exact CE.out _ _))
      refine wpQuiet_nil ?_
      intro _ hw'
      obtain ⟨⟨dq, osq⟩, hw''⟩ := hw'
      subst hw''
      have hq_w2 := below_regrown wr dq osq
      generalize grow (redrawn wr dq) osq = w2 at *
      go_wp2_with fail
      go_roundw
      case rel => exact ⟨k + 1, by omega, by go_num, hb.trans (hq_w2.mono hsz)⟩
      case measure => simp [intOf]; omega
    · have hkn : n ≤ k := by omega
      clear h h'
      go_wp2_with fail
      go_ret
      exact ⟨rfl, hb⟩
end Go.Proofs.Ytehfglfbnjdcoaa
