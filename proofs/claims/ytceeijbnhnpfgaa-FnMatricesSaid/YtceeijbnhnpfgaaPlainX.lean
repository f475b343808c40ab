/-
  Matrices: what the law FnMatrices says, in plain Lean.
-/
import Derived.Test.YtceeijbnhnpfgaaPlainT
namespace Go.Proofs.Ytceeijbnhnpfgaa
open Go.RowKit

/-- to go back is to go through what is turned about -/
theorem back_is_vec (r c : Int) (xs ys : List Int) : mVec (mTrR r c xs) (mTrC r c xs) (mTr r c xs) ys = mBack r c xs ys ∧ mVecS (mTrR r c xs) (mTrC r c xs) (mTr r c xs) ys = mBackS r c xs ys := by
  by_cases ho : okM r c xs = true
  · have h1 : mTrR r c xs = c := by rw [mTrR, if_pos ho]
    have h2 : mTrC r c xs = r := by rw [mTrC, if_pos ho]
    rw [h1, h2]
    by_cases hm : mbOk r c xs ys = true
    · exact mBack_vec r c xs ys hm
    · have hn : mvOk c r (mTr r c xs) ys = false := by
        have hm' : mbOk r c xs ys = false := by simpa using hm
        simp only [mbOk, ho, Bool.true_and] at hm'
        rw [mvOk]
        cases h3 : okM c r (mTr r c xs)
        · rfl
        · simpa using hm'
      rw [mVec, mVecS, mBack, mBackS, hn, if_neg hm, if_neg (by simp)]
      have hm' : mbOk r c xs ys = false := by simpa using hm
      rw [hm']; exact ⟨rfl, rfl⟩
  · have h1 : mTrR r c xs = 0 := by rw [mTrR, if_neg ho]
    have h2 : mTrC r c xs = 0 := by rw [mTrC, if_neg ho]
    have hm' : mbOk r c xs ys = false := by
      have : okM r c xs = false := by simpa using ho
      rw [mbOk, this]; rfl
    have hn : mvOk 0 0 (mTr r c xs) ys = false := by rw [mvOk, okM]; simp
    rw [h1, h2, mVec, mVecS, mBack, mBackS, hn, hm']
    exact ⟨rfl, rfl⟩
/-- turned about twice -/
theorem turn_twice {r c : Int} {xs : List Int} (ho : okM r c xs = true) : mTrR (mTrR r c xs) (mTrC r c xs) (mTr r c xs) = r ∧ mTrC (mTrR r c xs) (mTrC r c xs) (mTr r c xs) = c ∧ mTr (mTrR r c xs) (mTrC r c xs) (mTr r c xs) = xs := by
  obtain ⟨R, C, rfl, rfl, h1, h2, h3, h4, h5, h6⟩ := okM_spec ho
  have e1 : mTrR R C xs = C := by rw [mTrR, if_pos ho]
  have e2 : mTrC R C xs = R := by rw [mTrC, if_pos ho]
  have e3 : mTr R C xs = tposeL R C xs := by rw [mTr, if_pos ho]; simp
  have ho2 := okM_tpose ho
  rw [e1, e2, e3, mTrR, mTrC, mTr, if_pos ho2, if_pos ho2, if_pos ho2]
  refine ⟨rfl, rfl, ?_⟩
  simp only [Int.toNat_natCast]
  exact tpose_tpose h5
theorem fxMul_comm (a b : Int) : fxMul a b = fxMul b a := by rw [fxMul, fxMul, Int.mul_comm]
theorem fxMulS_comm (a b : Int) : fxMulS a b = fxMulS b a := by rw [fxMulS, fxMulS, Int.mul_comm]
theorem fxMul_ok (a b : Int) : fxOk (fxMul a b) = true := by
  have := clp_bd (clp a * clp b / 65536)
  rw [fxOk, fxMul, decide_eq_true this.1, decide_eq_true this.2]; rfl
theorem outL_ok {as bs : List Int} (ha : okV as = true) (hb : okV bs = true) : okM as.length bs.length (outL as bs) = true := by
  have h1 := okV_len ha
  have h2 := okV_len hb
  simp only [okM, Bool.and_eq_true, decide_eq_true_eq]
  refine ⟨⟨⟨⟨⟨by omega, by omega⟩, by omega⟩, by omega⟩, by rw [outL_len]; simp⟩, ?_⟩
  rw [List.all_eq_true]
  intro x hx
  rw [outL, List.mem_flatMap] at hx
  obtain ⟨a, _, hx⟩ := hx
  obtain ⟨b, _, rfl⟩ := List.mem_map.1 hx
  exact fxMul_ok a b
theorem outL_tpose (as bs : List Int) : tposeL as.length bs.length (outL as bs) = outL bs as := by
  refine ext_getD (n := bs.length * as.length) (tposeL_len ..) (by rw [outL_len]) fun j hj => ?_
  have hA : 0 < as.length := by
    rcases Nat.eq_zero_or_pos as.length with h0 | h0
    · rw [h0] at hj; simp at hj
    · exact h0
  have hk : j / as.length < bs.length := by rw [Nat.div_lt_iff_lt_mul hA]; exact hj
  have hi : j % as.length < as.length := Nat.mod_lt _ hA
  have hj2 : j / as.length * as.length + j % as.length = j := Nat.div_add_mod' j as.length
  have e1 := tposeL_get (R := as.length) (C := bs.length) (xs := outL as bs) hk hi
  have e2 := outL_get (ds := as) (xs := bs) hi hk
  have e3 := outL_get (ds := bs) (xs := as) hk hi
  rw [hj2] at e1 e3
  rw [e1]
  simp only [List.getD]
  rw [e2, e3, fxMul_comm]
theorem outSL_any {as bs : List Int} (h : (outSL as bs).any id = true) : (outSL bs as).any id = true := by
  rw [List.any_eq_true] at h ⊢
  obtain ⟨x, hx, hxt⟩ := h
  rw [outSL, List.mem_flatMap] at hx
  obtain ⟨a, ha, hx⟩ := hx
  obtain ⟨b, hb, rfl⟩ := List.mem_map.1 hx
  exact ⟨fxMulS b a, List.mem_flatMap.2 ⟨b, hb, List.mem_map.2 ⟨a, ha, rfl⟩⟩, by rw [fxMulS_comm]; exact hxt⟩
theorem outOk_comm (as bs : List Int) : outOk as bs = outOk bs as := by rw [outOk, outOk, Bool.and_comm]
/-- one out of the other: turned about -/
theorem outer_turn (as bs : List Int) : mOutS as bs = mOutS bs as ∧ mTrR (mOutR as bs) (mOutC as bs) (mOut as bs) = mOutR bs as ∧ mTrC (mOutR as bs) (mOutC as bs) (mOut as bs) = mOutC bs as ∧ mTr (mOutR as bs) (mOutC as bs) (mOut as bs) = mOut bs as := by
  refine ⟨?_, ?_⟩
  · rw [mOutS, mOutS, outOk_comm as bs]
    congr 1
    cases h1 : (outSL as bs).any id <;> cases h2 : (outSL bs as).any id
    · rfl
    · rw [outSL_any h2] at h1; cases h1
    · rw [outSL_any h1] at h2; cases h2
    · rfl
  · by_cases ho : outOk as bs = true
    · have ho2 : outOk bs as = true := by rw [← outOk_comm]; exact ho
      have hh := ho
      simp only [outOk, Bool.and_eq_true] at hh
      have hm := outL_ok hh.1 hh.2
      rw [mOutR, mOutC, mOut, mOutR, mOutC, mOut, if_pos ho, if_pos ho, if_pos ho, if_pos ho2, if_pos ho2, if_pos ho2, mTrR, mTrC, mTr, if_pos hm, if_pos hm, if_pos hm]
      refine ⟨rfl, rfl, ?_⟩
      simp only [Int.toNat_natCast]
      exact outL_tpose as bs
    · have ho2 : ¬ outOk bs as = true := by rw [← outOk_comm]; exact ho
      rw [mOutR, mOutC, mOut, mOutR, mOutC, mOut, if_neg ho, if_neg ho, if_neg ho, if_neg ho2, if_neg ho2, if_neg ho2]
      have hm : ¬ okM 0 0 [] = true := by simp [okM]
      rw [mTrR, mTrC, mTr]; simp [hm]
end Go.Proofs.Ytceeijbnhnpfgaa
