/-
  The contracts of LossOf.
-/
import Derived.Test.YtehfglfbnjdcoaaProg
import Derived.Test.YtehfglfbnjdcoaaVec2
import Derived.WalkKit
namespace Go.Proofs.Ytehfglfbnjdcoaa
open Go.RowKit
set_option maxRecDepth 100000

def lossV (ys ts : List Int) : Int := vDot (vSub ys ts) (vSub ys ts) / 2
def lossS (ys ts : List Int) : Bool := vSubS ys ts || vDotS (vSub ys ts) (vSub ys ts)

theorem clp_nonneg {x : Int} (h : 0 ≤ x) : 0 ≤ clp x := by unfold clp; split <;> (try split) <;> omega
theorem clp_nonpos {x : Int} (h : x ≤ 0) : clp x ≤ 0 := by unfold clp; split <;> (try split) <;> omega
theorem sq_nonneg (a : Int) : 0 ≤ a * a := by
  rcases Int.le_total 0 a with h | h
  · exact Int.mul_nonneg h h
  · have := Int.mul_nonneg (show 0 ≤ -a by omega) (show 0 ≤ -a by omega)
    rwa [Int.neg_mul_neg] at this
theorem fxMul_sq (x : Int) : 0 ≤ fxMul x x := clp_nonneg (Int.ediv_nonneg (sq_nonneg _) (by omega))
theorem fxAdd_nonneg {a b : Int} (ha : 0 ≤ a) (hb : 0 ≤ b) : 0 ≤ fxAdd a b := clp_nonneg (by have := clp_nonneg ha; have := clp_nonneg hb; omega)
theorem dotGo_sq : ∀ (xs : List Int) (s : Int) (b : Bool), 0 ≤ s → 0 ≤ (dotGo s b xs xs).1
  | [], s, b, h => by simpa [dotGo] using h
  | x :: xs, s, b, h => by rw [dotGo]; exact dotGo_sq xs _ _ (fxAdd_nonneg h (fxMul_sq x))
theorem vDot_sq (xs : List Int) : 0 ≤ vDot xs xs := by
  rw [vDot]; split
  · exact dotGo_sq xs 0 false (by omega)
  · omega
theorem dotGo_hi : ∀ (xs ys : List Int) (s : Int) (b : Bool), s ≤ 2147483647 → (dotGo s b xs ys).1 ≤ 2147483647
  | [], _, s, b, h => by simpa [dotGo] using h
  | _ :: _, [], s, b, h => by simpa [dotGo] using h
  | x :: xs, y :: ys, s, b, h => by rw [dotGo]; exact dotGo_hi xs ys _ _ (clp_hi _)
theorem vDot_hi (xs ys : List Int) : vDot xs ys ≤ 2147483647 := by
  rw [vDot]; split
  · exact dotGo_hi xs ys 0 false (by omega)
  · omega
theorem spec_LossOf {B n c B' n' c' : Nat} {A A' : Option Addr} {xs ys : List Int} (w : World) (h : RI w B A n c xs) (h' : RI w B' A' n' c' ys) (hB : B ≤ w.heap.size) (hB' : B' ≤ w.heap.size) (hn : n ≤ 1048576) (hn' : n' ≤ 1048576) :
    Calls Try.prog 75 #[.slice A n c, .slice A' n' c'] w fun e w' => e = .returned (.tuple #[.int .i64 (lossV xs ys), .bool (lossS xs ys)]) ∧ Below w.heap.size w w' := by
  obtain ⟨d, hd⟩ : ∃ d, d = vSub xs ys := ⟨_, rfl⟩
  obtain ⟨q, hq⟩ : ∃ q, q = vDot d d := ⟨_, rfl⟩
  have hq0 : 0 ≤ q := hq ▸ vDot_sq d
  have hq1 : q ≤ 2147483647 := hq ▸ vDot_hi d d
  have hdl : d.length ≤ 6 := hd ▸ vSub_len xs ys
  have HV := hide (show lossV xs ys = q / 2 from by rw [lossV, ← hd, ← hq])
  have HS := hide (show lossS xs ys = (vSubS xs ys || vDotS d d) from by rw [lossS, ← hd])
  have HSUB := hide (show Calls Try.prog 76 #[.slice A n c, .slice A' n' c'] w (GivesB (vSubS xs ys) (NI w d)) from by rw [hd]; exact spec_VecSub w h h' hB hB' hn hn')
  have HQ := hide hq
  clear hd hq h h'
  cases hs : vSubS xs ys
  all_goals
    rw [hs] at HSUB
    have HSS := hide hs
    clear hs
    go_enter Try.func75, Try.ntmps75
    go_wp2_with fail
    refine HSUB.out.mono ?_
    rintro e w1 ⟨v, rfl, hn1⟩
    obtain ⟨A1, n1, c1, rfl, h1, hb⟩ := newI hn1
    clear hn1
    have HDOT := hide (show Calls Try.prog 98 #[.slice A1 n1 c1, .slice A1 n1 c1] w1 (Quiet (.tuple #[.int .i64 q, .bool (vDotS d d)]) w1) from by
      rw [HQ.out]; exact spec_VecDot w1 h1.ri h1.ri (by have := h1.ri.1; omega) (by have := h1.ri.1; omega))
    clear h1
    go_wp2_with fail
    refine HDOT.out.mono ?_
    rintro e w2 hq2
    obtain ⟨rfl, hb2⟩ := hq2.below
    clear hq2
    go_wp2_with fail
    go_ret2
    exact ⟨rIB HV.out.symm (by rw [HS.out, HSS.out]; rfl), below2 hb hb2⟩
theorem impl_LossOf {B n c B' n' c' : Nat} {A A' : Option Addr} {xs ys : List Int} (w : World) (h : RI w B A n c xs) (h' : RI w B' A' n' c' ys) (hB : B ≤ w.heap.size) (hB' : B' ≤ w.heap.size) (hn : n ≤ 1048576) (hn' : n' ≤ 1048576) :
    Calls Try.prog 80 #[.slice A n c, .slice A' n' c'] w fun e w' => e = .returned (.tuple #[.int .i64 (lossV xs ys), .bool (lossS xs ys)]) ∧ Below w.heap.size w w' := by
  obtain ⟨d, hd⟩ : ∃ d, d = vSub xs ys := ⟨_, rfl⟩
  obtain ⟨q, hq⟩ : ∃ q, q = vDot d d := ⟨_, rfl⟩
  have hq0 : 0 ≤ q := hq ▸ vDot_sq d
  have hq1 : q ≤ 2147483647 := hq ▸ vDot_hi d d
  have hdl : d.length ≤ 6 := hd ▸ vSub_len xs ys
  have HV := hide (show lossV xs ys = q / 2 from by rw [lossV, ← hd, ← hq])
  have HS := hide (show lossS xs ys = (vSubS xs ys || vDotS d d) from by rw [lossS, ← hd])
  have HSUB := hide (show Calls Try.prog 81 #[.slice A n c, .slice A' n' c'] w (GivesB (vSubS xs ys) (NI w d)) from by rw [hd]; exact impl_VecSub w h h' hB hB' hn hn')
  have HQ := hide hq
  clear hd hq h h'
  cases hs : vSubS xs ys
  all_goals
    rw [hs] at HSUB
    have HSS := hide hs
    clear hs
    go_enter Try.func80, Try.ntmps80
    go_wp2_with fail
    refine HSUB.out.mono ?_
    rintro e w1 ⟨v, rfl, hn1⟩
    obtain ⟨A1, n1, c1, rfl, h1, hb⟩ := newI hn1
    clear hn1
    have HDOT := hide (show Calls Try.prog 104 #[.slice A1 n1 c1, .slice A1 n1 c1] w1 (Quiet (.tuple #[.int .i64 q, .bool (vDotS d d)]) w1) from by
      rw [HQ.out]; exact impl_VecDot w1 h1.ri h1.ri (by have := h1.ri.1; omega) (by have := h1.ri.1; omega))
    clear h1
    go_wp2_with fail
    refine HDOT.out.mono ?_
    rintro e w2 hq2
    obtain ⟨rfl, hb2⟩ := hq2.below
    clear hq2
    go_wp2_with fail
    go_ret2
    exact ⟨rIB HV.out.symm (by rw [HS.out, HSS.out]; rfl), below2 hb hb2⟩
end Go.Proofs.Ytehfglfbnjdcoaa
