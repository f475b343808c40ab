/-
  Joined: PlainY, PlainZ.
-/
import Derived.Test.YtehfglfbnjdcoaaJPlain
import Derived.Test.YtehfglfbnjdcoaaMkN
namespace Go.Proofs.Ytehfglfbnjdcoaa
open Go.RowKit
set_option maxRecDepth 100000
set_option maxRecDepth 100000

theorem okV_mk {xs : List Int} (h1 : 1 ≤ xs.length) (h2 : xs.length ≤ 6) (h3 : xs.all fxOk = true) : okV xs = true := by
  rw [okV, decide_eq_true h1, decide_eq_true h2, h3]; rfl
theorem clp_ok (x : Int) : fxOk (clp x) = true := by
  have := clp_bd x
  rw [fxOk, decide_eq_true this.1, decide_eq_true this.2]; rfl
theorem fxAdd_okY (a b : Int) : fxOk (fxAdd a b) = true := clp_ok _
theorem fxMul_okY (a b : Int) : fxOk (fxMul a b) = true := clp_ok _
theorem fxRelu_okY (a : Int) : fxOk (fxRelu a) = true := by
  rw [fxRelu]; split
  · rfl
  · exact clp_ok a
theorem dotGo_ok : ∀ (xs ys : List Int) (s : Int) (b : Bool), fxOk s = true → fxOk (dotGo s b xs ys).1 = true
  | x :: xs, y :: ys, s, b, h => dotGo_ok xs ys _ _ (fxAdd_okY _ _)
  | [], _, s, b, h => by cases ‹List Int› <;> exact h
  | _ :: _, [], s, b, h => h
theorem vDot_ok (xs ys : List Int) : fxOk (vDot xs ys) = true := by
  rw [vDot]; split
  · exact dotGo_ok xs ys 0 false rfl
  · rfl
theorem all_mapY {α : Type} (f : α → Int) (l : List α) (h : ∀ a, fxOk (f a) = true) : (l.map f).all fxOk = true := by
  rw [List.all_eq_true]
  intro x hx
  obtain ⟨a, _, rfl⟩ := List.mem_map.1 hx
  exact h a
theorem all_zipY (f : Int → Int → Int) (h : ∀ a b, fxOk (f a b) = true) : ∀ (xs ys : List Int), (List.zipWith f xs ys).all fxOk = true
  | [], _ => by simp
  | _ :: _, [] => by simp
  | x :: xs, y :: ys => by rw [List.zipWith_cons_cons, List.all_cons, h, all_zipY f h xs ys]; rfl
theorem mVec_specY {r c : Int} {p xs : List Int} (h : mvOk r c p xs = true) : ((mVec r c p xs).length : Int) = r ∧ okV (mVec r c p xs) = true := by
  have ho := h
  simp only [mvOk, Bool.and_eq_true] at ho
  obtain ⟨R, C, rfl, rfl, h1, h2, h3, h4, h5, h6⟩ := okM_spec ho.1.1
  have hl : (mVec (R : Int) (C : Int) p xs).length = R := by rw [mVec, if_pos h, mvRow]; simp
  refine ⟨by rw [hl], okV_mk (by omega) (by omega) ?_⟩
  rw [mVec, if_pos h, mvRow]
  exact all_mapY _ _ fun k => vDot_ok _ _
theorem vAdd_specY {xs ys : List Int} (h : pairV xs ys = true) : (vAdd xs ys).length = xs.length ∧ okV (vAdd xs ys) = true := by
  have hp := pairV_len h
  have hl : (vAdd xs ys).length = xs.length := by rw [vAdd, if_pos h, zip_len _ hp.2.2]
  refine ⟨hl, okV_mk (by omega) (by omega) ?_⟩
  rw [vAdd, if_pos h]
  exact all_zipY _ fxAdd_okY _ _
theorem pairV_mk {xs ys : List Int} (h1 : okV xs = true) (h2 : okV ys = true) (h3 : xs.length = ys.length) : pairV xs ys = true := by
  rw [pairV, h1, h2, decide_eq_true h3]; rfl
theorem okM_mk {r c : Int} {p : List Int} (h1 : 1 ≤ r) (h2 : r ≤ 6) (h3 : 1 ≤ c) (h4 : c ≤ 6) (h5 : (p.length : Int) = r * c) (h6 : p.all fxOk = true) : okM r c p = true := by
  rw [okM, decide_eq_true h1, decide_eq_true h2, decide_eq_true h3, decide_eq_true h4, decide_eq_true h5, h6]; rfl
theorem all_getY {xs : List Int} (h : xs.all fxOk = true) (j : Nat) : fxOk (xs.getD j 0) = true := by
  by_cases hj : j < xs.length
  · rw [List.all_eq_true] at h
    have := h xs[j] (List.getElem_mem hj)
    simpa [List.getD, List.getElem?_eq_getElem hj] using this
  · simp [List.getD, List.getElem?_eq_none (Nat.le_of_not_lt hj)]; rfl
/-- the size that belongs to each kind -/
theorem opSize_kind {i o : Int} (h1 : 1 ≤ i) (h2 : i ≤ 6) (h3 : 1 ≤ o) (h4 : o ≤ 6) : opSize 1 i o = i * o ∧ opSize 2 i o = i ∧ opSize 3 i o = 0 ∧ opSize 4 i o = 1 ∧ opSize 5 i o = i * o := by
  have h : 1 ≤ i ∧ i ≤ 6 ∧ 1 ≤ o ∧ o ≤ 6 := ⟨h1, h2, h3, h4⟩
  simp [opSize, h]
theorem fw_spec {d : OpD} {xs : List Int} (h : fwOk d xs = true) : ((fw d xs).length : Int) = d.o ∧ okV (fw d xs) = true := by
  obtain ⟨ho, hx, hl⟩ := fwOk_spec h
  obtain ⟨k1, k5, i1, i6, o1, o6, hio, hp, hpa⟩ := okOd_spec ho
  obtain ⟨s1, s2, s3, s4, s5⟩ := opSize_kind i1 i6 o1 o6
  have hxl := okV_len hx
  rw [(fw_yes h).1, fwV]
  have hk : d.k = 1 ∨ d.k = 2 ∨ d.k = 3 ∨ d.k = 4 ∨ d.k = 5 := by omega
  have hm : d.k = 1 ∨ d.k = 5 → mvOk d.o d.i d.p xs = true := fun hk => by
    have hpl : (d.p.length : Int) = d.o * d.i := by
      rw [Int.mul_comm]
      rcases hk with hk | hk <;> rw [hk] at hp <;> omega
    rw [mvOk, okM_mk o1 o6 i1 i6 hpl hpa, hx, decide_eq_true hl]; rfl
  rcases hk with hk | hk | hk | hk | hk
  · rw [if_pos hk]
    exact mVec_specY (hm (.inl hk))
  · rw [if_neg (by omega), if_pos hk]
    rw [hk, s2] at hp
    have hpv := pairV_mk hx (okV_mk (xs := d.p) (by omega) (by omega) hpa) (by omega)
    have := vAdd_specY hpv
    exact ⟨by rw [this.1]; have := hio (by omega); omega, this.2⟩
  · rw [if_neg (by omega), if_neg (by omega), if_pos hk, vRelu, if_pos hx]
    exact ⟨by rw [List.length_map]; have := hio (by omega); omega, okV_mk (by simpa using hxl.1) (by simpa using hxl.2) (all_mapY _ _ fxRelu_okY)⟩
  · rw [if_neg (by omega), if_neg (by omega), if_neg (by omega), if_pos hk, vScale, if_pos (by rw [okS, all_getY hpa, hx]; rfl)]
    exact ⟨by rw [List.length_map]; have := hio (by omega); omega, okV_mk (by simpa using hxl.1) (by simpa using hxl.2) (all_mapY _ _ (fxMul_okY _))⟩
  · rw [if_neg (by omega), if_neg (by omega), if_neg (by omega), if_neg (by omega)]
    have hv := mVec_specY (hm (.inr hk))
    have := hio (by omega)
    have hpv := pairV_mk hx hv.2 (by omega)
    have := vAdd_specY hpv
    exact ⟨by rw [this.1]; omega, this.2⟩
theorem mBack_specY {r c : Int} {p ys : List Int} (h : mbOk r c p ys = true) : ((mBack r c p ys).length : Int) = c ∧ okV (mBack r c p ys) = true := by
  have ho := h
  simp only [mbOk, Bool.and_eq_true] at ho
  obtain ⟨R, C, rfl, rfl, h1, h2, h3, h4, h5, h6⟩ := okM_spec ho.1.1
  have hl : (mBack (R : Int) (C : Int) p ys).length = C := by rw [mBack, if_pos h, mvRow]; simp
  refine ⟨by rw [hl], okV_mk (by omega) (by omega) ?_⟩
  rw [mBack, if_pos h, mvRow]
  exact all_mapY _ _ fun k => vDot_ok _ _
theorem bw_spec {d : OpD} {xs ds : List Int} (h : bwOk d xs ds = true) : ((bw d xs ds).length : Int) = d.i ∧ okV (bw d xs ds) = true ∧ ((bwG d xs ds).length : Int) = opSize d.k d.i d.o := by
  obtain ⟨ho, hx, hl, hd, hdl⟩ := bwOk_spec h
  obtain ⟨k1, k5, i1, i6, o1, o6, hio, hp, hpa⟩ := okOd_spec ho
  obtain ⟨s1, s2, s3, s4, s5⟩ := opSize_kind i1 i6 o1 o6
  have hxl := okV_len hx
  have hdn := okV_len hd
  rw [(bw_yes h).1, (bw_yes h).2.1, bwV, bwGV]
  have hk : d.k = 1 ∨ d.k = 2 ∨ d.k = 3 ∨ d.k = 4 ∨ d.k = 5 := by omega
  have hm : d.k = 1 ∨ d.k = 5 → mbOk d.o d.i d.p ds = true := fun hk => by
    have hpl : (d.p.length : Int) = d.o * d.i := by
      rw [Int.mul_comm]
      rcases hk with hk | hk <;> rw [hk] at hp <;> omega
    rw [mbOk, okM_mk o1 o6 i1 i6 hpl hpa, hd, decide_eq_true hdl]; rfl
  have hout : ((mOut ds xs).length : Int) = d.i * d.o := by
    rw [mOut, if_pos (by rw [outOk, hd, hx]; rfl), outL_len, Int.natCast_mul, hl, hdl, Int.mul_comm]
  rcases hk with hk | hk | hk | hk | hk
  · rw [if_pos hk, if_pos hk, hk, s1]
    have := mBack_specY (hm (.inl hk))
    exact ⟨this.1, this.2, hout⟩
  · rw [if_neg (by omega), if_pos hk, if_neg (by omega), if_pos hk, hk, s2]
    have := hio (by omega)
    exact ⟨by omega, hd, by omega⟩
  · rw [if_neg (by omega), if_neg (by omega), if_pos hk, if_neg (by omega), if_neg (by omega), if_pos hk, hk, s3]
    have := hio (by omega)
    have hpv := pairV_mk hx hd (by omega)
    have hz : (List.zipWith maskF xs ds).length = xs.length := zip_len _ (by omega)
    rw [vMask, if_pos hpv]
    refine ⟨by rw [hz]; omega, okV_mk (by omega) (by omega) ?_, rfl⟩
    have hda := okV_all hd
    rw [List.all_eq_true]
    intro x hx'
    obtain ⟨j, hj, rfl⟩ := List.mem_iff_getElem.1 hx'
    rw [List.getElem_zipWith, maskF]
    split
    · rw [List.all_eq_true] at hda
      exact hda _ (List.getElem_mem _)
    · rfl
  · rw [if_neg (by omega), if_neg (by omega), if_neg (by omega), if_pos hk, if_neg (by omega), if_neg (by omega), if_neg (by omega), if_pos hk, hk, s4, vScale, if_pos (by rw [okS, all_getY hpa, hd]; rfl)]
    have := hio (by omega)
    exact ⟨by rw [List.length_map]; omega, okV_mk (by simpa using hdn.1) (by simpa using hdn.2) (all_mapY _ _ (fxMul_okY _)), rfl⟩
  · rw [if_neg (by omega), if_neg (by omega), if_neg (by omega), if_neg (by omega), if_neg (by omega), if_neg (by omega), if_neg (by omega), if_neg (by omega), hk, s5]
    have hv := mBack_specY (hm (.inr hk))
    have := hio (by omega)
    have hpv := pairV_mk hd hv.2 (by omega)
    have := vAdd_specY hpv
    exact ⟨by rw [this.1]; omega, this.2, hout⟩
/-! nought -/
theorem clpZ : clp 0 = 0 := rfl
theorem fxMul_z (a : Int) : fxMul a 0 = 0 := by rw [fxMul, clpZ, Int.mul_zero]; rfl
theorem fxMul_zl (a : Int) : fxMul 0 a = 0 := by rw [fxMul, clpZ, Int.zero_mul]; rfl
theorem fxMulS_z (a : Int) : fxMulS a 0 = false := by rw [fxMulS, clpZ, Int.mul_zero]; rfl
theorem fxMulS_zl (a : Int) : fxMulS 0 a = false := by rw [fxMulS, clpZ, Int.zero_mul]; rfl
theorem dotGo_z : ∀ (xs : List Int) (n : Nat), dotGo 0 false xs (List.replicate n 0) = (0, false)
  | [], n => by cases n <;> rfl
  | x :: xs, 0 => rfl
  | x :: xs, n + 1 => by
    rw [List.replicate_succ, dotGo, fxMul_z, fxMulS_z, show fxAdd 0 0 = 0 from rfl, show fxAddS 0 0 = false from rfl]
    exact dotGo_z xs n
theorem dotGo_zl : ∀ (xs : List Int) (n : Nat), dotGo 0 false (List.replicate n 0) xs = (0, false)
  | [], n => by cases n <;> rfl
  | x :: xs, 0 => rfl
  | x :: xs, n + 1 => by
    rw [List.replicate_succ, dotGo, fxMul_zl, fxMulS_zl, show fxAdd 0 0 = 0 from rfl, show fxAddS 0 0 = false from rfl]
    exact dotGo_zl xs n
theorem vDot_z (xs : List Int) (n : Nat) : vDot xs (List.replicate n 0) = 0 ∧ vDotS xs (List.replicate n 0) = false := by
  rw [vDot, vDotS, dotGo_z]
  exact ⟨by split <;> rfl, by simp⟩
theorem vDot_zl (xs : List Int) (n : Nat) : vDot (List.replicate n 0) xs = 0 ∧ vDotS (List.replicate n 0) xs = false := by
  rw [vDot, vDotS, dotGo_zl]
  exact ⟨by split <;> rfl, by simp⟩
def allZ (xs : List Int) : Prop := ∀ x ∈ xs, x = 0
theorem allZ_rep (n : Nat) : allZ (List.replicate n 0) := fun _ hx => (List.mem_replicate.1 hx).2
theorem allZ_nil : allZ [] := fun _ hx => by simp at hx
theorem allZ_zip (f : Int → Int → Int) : ∀ (xs ys : List Int), (∀ x ∈ xs, ∀ y ∈ ys, f x y = 0) → allZ (List.zipWith f xs ys)
  | [], _, _ => by simp [allZ]
  | _ :: _, [], _ => by simp [allZ]
  | x :: xs, y :: ys, h => by
    intro z hz
    rw [List.zipWith_cons_cons, List.mem_cons] at hz
    rcases hz with rfl | hz
    · exact h x (by simp) y (by simp)
    · exact allZ_zip f xs ys (fun a ha b hb => h a (by simp [ha]) b (by simp [hb])) z hz
theorem mBack_z (r c : Int) (p : List Int) (n : Nat) : allZ (mBack r c p (List.replicate n 0)) ∧ mBackS r c p (List.replicate n 0) = false := by
  refine ⟨fun x hx => ?_, ?_⟩
  · rw [mBack] at hx
    split at hx
    · rw [mvRow] at hx
      obtain ⟨k, _, rfl⟩ := List.mem_map.1 hx
      exact (vDot_z _ n).1
    · simp at hx
  · rw [mBackS]
    have : (mvRowS r.toNat (tposeL r.toNat c.toNat p) (List.replicate n 0) c.toNat).any id = false := by
      rw [List.any_eq_false]
      intro x hx
      rw [mvRowS] at hx
      obtain ⟨k, _, rfl⟩ := List.mem_map.1 hx
      rw [(vDot_z _ n).2]; simp
    rw [this, Bool.and_false]
theorem vAdd_z (n : Nat) {ys : List Int} (h : allZ ys) : allZ (vAdd (List.replicate n 0) ys) ∧ vAddS (List.replicate n 0) ys = false := by
  refine ⟨?_, ?_⟩
  · rw [vAdd]; split
    · exact allZ_zip _ _ _ fun x hx y hy => by rw [(List.mem_replicate.1 hx).2, h y hy]; rfl
    · exact allZ_nil
  · rw [vAddS, anyZ]
    have : (List.zipWith fxAddS (List.replicate n 0) ys).any id = false := by
      rw [List.any_eq_false]
      intro b hb
      obtain ⟨j, hj, rfl⟩ := List.mem_iff_getElem.1 hb
      rw [List.getElem_zipWith]
      have h1 : (List.replicate n (0 : Int))[j]'(by simp at hj; simp; omega) = 0 := by simp
      have h2 := h (ys[j]'(by simp at hj; omega)) (List.getElem_mem _)
      rw [h1, h2]; decide
    rw [this, Bool.and_false]
theorem mOut_z (n : Nat) (xs : List Int) : allZ (mOut (List.replicate n 0) xs) ∧ mOutS (List.replicate n 0) xs = false := by
  refine ⟨fun x hx => ?_, ?_⟩
  · rw [mOut] at hx
    split at hx
    · rw [outL, List.mem_flatMap] at hx
      obtain ⟨a, ha, hx⟩ := hx
      obtain ⟨b, _, rfl⟩ := List.mem_map.1 hx
      rw [(List.mem_replicate.1 ha).2, fxMul_zl]
    · simp at hx
  · rw [mOutS]
    have : (outSL (List.replicate n 0) xs).any id = false := by
      rw [List.any_eq_false]
      intro b hb
      rw [outSL, List.mem_flatMap] at hb
      obtain ⟨a, ha, hb⟩ := hb
      obtain ⟨c, _, rfl⟩ := List.mem_map.1 hb
      rw [(List.mem_replicate.1 ha).2, fxMulS_zl]; simp
    rw [this, Bool.and_false]
theorem bw_zero {d : OpD} {xs : List Int} (n : Nat) : allZ (bw d xs (List.replicate n 0)) ∧ allZ (bwG d xs (List.replicate n 0)) ∧ bwS d xs (List.replicate n 0) = false := by
  by_cases h : bwOk d xs (List.replicate n 0) = true
  · rw [(bw_yes h).1, (bw_yes h).2.1, (bw_yes h).2.2, bwV, bwGV, bwB]
    by_cases k1 : d.k = 1
    · rw [if_pos k1, if_pos k1, if_pos k1, (mBack_z ..).2, (mOut_z ..).2]
      exact ⟨(mBack_z ..).1, (mOut_z ..).1, rfl⟩
    by_cases k2 : d.k = 2
    · rw [if_neg k1, if_neg k1, if_neg k1, if_pos k2, if_pos k2, if_pos k2]
      exact ⟨allZ_rep n, allZ_rep n, rfl⟩
    by_cases k3 : d.k = 3
    · rw [if_neg k1, if_neg k1, if_neg k1, if_neg k2, if_neg k2, if_neg k2, if_pos k3, if_pos k3, if_pos k3]
      refine ⟨?_, allZ_nil, rfl⟩
      rw [vMask]; split
      · exact allZ_zip _ _ _ fun x hx y hy => by rw [(List.mem_replicate.1 hy).2, maskF]; split <;> rfl
      · exact allZ_nil
    by_cases k4 : d.k = 4
    · rw [if_neg k1, if_neg k1, if_neg k1, if_neg k2, if_neg k2, if_neg k2, if_neg k3, if_neg k3, if_neg k3, if_pos k4, if_pos k4, if_pos k4, (vDot_zl ..).1, (vDot_zl ..).2]
      refine ⟨?_, fun x hx => by simpa using hx, ?_⟩
      · rw [vScale]; split
        · intro x hx
          obtain ⟨a, ha, rfl⟩ := List.mem_map.1 hx
          rw [(List.mem_replicate.1 ha).2, fxMul_z]
        · exact allZ_nil
      · rw [vScaleS, Bool.or_false]
        have : (List.replicate n (0 : Int)).any (fxMulS (d.p.getD 0 0)) = false := by
          rw [List.any_eq_false]
          intro x hx
          rw [(List.mem_replicate.1 hx).2, fxMulS_z]; simp
        rw [this, Bool.and_false]
    · rw [if_neg k1, if_neg k1, if_neg k1, if_neg k2, if_neg k2, if_neg k2, if_neg k3, if_neg k3, if_neg k3, if_neg k4, if_neg k4, if_neg k4, (mBack_z ..).2, (mOut_z ..).2, (vAdd_z n (mBack_z ..).1).2]
      exact ⟨(vAdd_z n (mBack_z ..).1).1, (mOut_z ..).1, rfl⟩
  · have h' : bwOk d xs (List.replicate n 0) = false := by simpa using h
    rw [(bw_no h').1, (bw_no h').2.1, (bw_no h').2.2]
    exact ⟨allZ_nil, allZ_nil, rfl⟩
theorem opCost_nn (k i o : Int) (xs : List Int) : 0 ≤ opCost k i o xs := by
  rw [opCost]; split
  · rename_i h
    simp only [okO, Bool.and_eq_true, decide_eq_true_eq] at h
    obtain ⟨⟨h1, h2, h3, h4, h5, h6, _⟩, _⟩ := h
    split
    · exact Int.mul_nonneg (by omega) (by omega)
    · split <;> omega
  · exact Int.le_refl _
end Go.Proofs.Ytehfglfbnjdcoaa
namespace Go.Proofs.Ytehfglfbnjdcoaa
open Go.RowKit
set_option maxRecDepth 100000

theorem zipG_comm {α β : Type} (f : α → α → β) (h : ∀ a b, f a b = f b a) : ∀ (xs ys : List α), List.zipWith f xs ys = List.zipWith f ys xs
  | [], ys => by simp
  | x :: xs, [] => by simp
  | x :: xs, y :: ys => by rw [List.zipWith_cons_cons, List.zipWith_cons_cons, h, zipG_comm f h xs ys]
theorem fxAdd_commZ (a b : Int) : fxAdd a b = fxAdd b a := by rw [fxAdd, fxAdd, Int.add_comm]
theorem fxAddS_commZ (a b : Int) : fxAddS a b = fxAddS b a := by rw [fxAddS, fxAddS, Int.add_comm]
theorem addRow_comm (a b : List Int) : addRow a b = addRow b a := zipG_comm _ fxAdd_commZ a b
theorem addRowS_comm (a b : List Int) : addRowS a b = addRowS b a := by rw [addRowS, addRowS, anyZ, anyZ, zipG_comm _ fxAddS_commZ a b]
theorem addG_comm (a b : GrD) : addG a b = addG b a := by
  rw [addG, addG, zipG_comm _ addRow_comm a.rows, zipG_comm _ addRowS_comm a.rows, fxAdd_commZ, fxAddS_commZ, Bool.or_comm a.sat]
theorem addG_sat {a b : GrD} (h : a.sat = true) : (addG a b).sat = true := by rw [addG, h]; simp
theorem addG_satS {a b : GrD} {s : Bool} (h : (addG a b).sat = s) : (!a.sat || s) = true := by
  cases hs : a.sat with
  | false => rfl
  | true => rw [← h, addG_sat hs]; rfl
/-! sizes -/
theorem zeroG_words (ds : List OpD) : (sumN ((zeroG ds).rows.map fun d => d.length) : Int) = mWords ds := by
  rw [mWords, zeroG]
  by_cases h : okMd ds = true
  · rw [if_pos h, if_pos h, List.map_map]
    congr 2
    apply List.map_congr_left
    intro d _
    simp
  · rw [if_neg h, if_neg h]; rfl
theorem okMd_head {ds : List OpD} (h : okMd ds = true) : ∃ d, ds[0]? = some d ∧ okOd d = true ∧ mIn ds = d.i := by
  have hl := okMd_len h
  obtain ⟨d, hd⟩ : ∃ d, ds[0]? = some d := ⟨_, List.getElem?_eq_getElem (by omega)⟩
  refine ⟨d, hd, okMd_op h hd, ?_⟩
  rw [mIn, if_pos h, List.head?_eq_getElem?, hd]
theorem okMd_last {ds : List OpD} (h : okMd ds = true) : ∃ d, ds[ds.length - 1]? = some d ∧ okOd d = true ∧ mOutN ds = d.o := by
  have hl := okMd_len h
  obtain ⟨d, hd⟩ : ∃ d, ds[ds.length - 1]? = some d := ⟨_, List.getElem?_eq_getElem (by omega)⟩
  refine ⟨d, hd, okMd_op h hd, ?_⟩
  rw [mOutN, if_pos h, List.getLast?_eq_getElem?, hd]
theorem mIn_pos (ds : List OpD) : decide (mIn ds > 0) = okMd ds := by
  cases h : okMd ds with
  | true =>
    obtain ⟨d, _, ho, he⟩ := okMd_head h
    have := okOd_spec ho
    exact decide_eq_true (by rw [he]; omega)
  | false => rw [mIn, h]; rfl
theorem mOutN_pos (ds : List OpD) : decide (mOutN ds > 0) = okMd ds := by
  cases h : okMd ds with
  | true =>
    obtain ⟨d, _, ho, he⟩ := okMd_last h
    have := okOd_spec ho
    exact decide_eq_true (by rw [he]; omega)
  | false => rw [mOutN, h]; rfl
theorem okMd_chain {ds : List OpD} (h : okMd ds = true) {j : Nat} {d p : OpD} (hd : ds[j + 1]? = some d) (hp : ds[j]? = some p) : p.o = d.i := by
  have := okMd_at h (List.getElem?_eq_some_iff.1 hd).1
  rw [okAt_succ hd hp, Bool.and_eq_true, decide_eq_true_eq] at this
  exact this.2
theorem fitP_spec {ds : List OpD} {x t : List Int} (h : fitP ds x t = true) : okMd ds = true ∧ okV x = true ∧ (x.length : Int) = mIn ds ∧ okV t = true ∧ (t.length : Int) = mOutN ds := by
  simp only [fitP, Bool.and_eq_true, decide_eq_true_eq] at h
  exact ⟨h.1.1, h.1.2.1, h.1.2.2, h.2.1, h.2.2⟩
theorem ins_ok {ds : List OpD} {x : List Int} (h : okMd ds = true) (hx : okV x = true) (hl : (x.length : Int) = mIn ds) : ∀ (j : Nat) (d : OpD) (r : List Int), ds[j]? = some d → (insR ds x)[j]? = some r → fwOk d r = true
  | 0, d, r, hd, hr => by
    obtain ⟨d', hd', ho, he⟩ := okMd_head h
    rw [hd] at hd'
    obtain rfl : d = d' := by simpa using hd'
    rw [insR_zero] at hr
    obtain rfl : x = r := by simpa using hr
    rw [fwOk, ho, hx, decide_eq_true (by rw [hl, he])]; rfl
  | j + 1, d, r, hd, hr => by
    have hjl := (List.getElem?_eq_some_iff.1 hd).1
    obtain ⟨p, hp⟩ : ∃ p, ds[j]? = some p := ⟨_, List.getElem?_eq_getElem (by omega)⟩
    obtain ⟨q, hq⟩ : ∃ q, (insR ds x)[j]? = some q := ⟨_, List.getElem?_eq_getElem (by rw [insR_len]; omega)⟩
    have ih := ins_ok h hx hl j p q hp hq
    have hs := insR_succ ds x j p q hp hq
    rw [hr] at hs
    obtain rfl : r = fw p q := by simpa using hs
    have hf := fw_spec ih
    rw [fwOk, okMd_op h hd, hf.2, decide_eq_true (by rw [hf.1]; exact okMd_chain h hd hp)]; rfl
theorem out_ok {ds : List OpD} {x : List Int} (h : okMd ds = true) (hx : okV x = true) (hl : (x.length : Int) = mIn ds) : okV (outV ds x) = true ∧ ((outV ds x).length : Int) = mOutN ds := by
  obtain ⟨d, hd, ho, he⟩ := okMd_last h
  have hn := okMd_len h
  obtain ⟨q, hq⟩ : ∃ q, (insR ds x)[ds.length - 1]? = some q := ⟨_, List.getElem?_eq_getElem (by rw [insR_len]; omega)⟩
  have hs := insR_succ ds x _ d q hd hq
  have hf := fw_spec (ins_ok h hx hl _ d q hd hq)
  rw [show ds.length - 1 + 1 = ds.length by omega] at hs
  have hv : outV ds x = fw d q := by rw [outV, List.getD, hs]; rfl
  rw [hv]
  exact ⟨hf.2, hf.1.trans he.symm⟩
theorem vSub_specZ {xs ys : List Int} (h : pairV xs ys = true) : (vSub xs ys).length = xs.length ∧ okV (vSub xs ys) = true := by
  have hp := pairV_len h
  have hl : (vSub xs ys).length = xs.length := by rw [vSub, if_pos h, zip_len _ hp.2.2]
  refine ⟨hl, okV_mk (by omega) (by omega) ?_⟩
  rw [vSub, if_pos h]
  exact all_zipY _ (fun a b => clp_ok _) _ _
theorem bk_ok {ds : List OpD} {x e : List Int} (h : okMd ds = true) (hx : okV x = true) (hl : (x.length : Int) = mIn ds) (he : okV e = true) (hel : (e.length : Int) = mOutN ds) :
    ∀ (j i : Nat) (d : OpD) (r : List Int), i + j + 1 = ds.length → ds[i]? = some d → (insR ds x)[i]? = some r → bwOk d r (bkD ds (insR ds x) e j) = true
  | 0, i, d, r, hij, hd, hr => by
    obtain ⟨d', hd', ho, hq⟩ := okMd_last h
    rw [show ds.length - 1 = i by omega, hd] at hd'
    obtain rfl : d = d' := by simpa using hd'
    rw [bwOk, ins_ok h hx hl i d r hd hr, bkD, he, decide_eq_true (by rw [hel, hq])]; rfl
  | j + 1, i, d, r, hij, hd, hr => by
    obtain ⟨p, hp⟩ : ∃ p, ds[i + 1]? = some p := ⟨_, List.getElem?_eq_getElem (by omega)⟩
    obtain ⟨q, hq⟩ : ∃ q, (insR ds x)[i + 1]? = some q := ⟨_, List.getElem?_eq_getElem (by rw [insR_len]; omega)⟩
    have ih := bk_ok h hx hl he hel j (i + 1) p q (by omega) hp hq
    have hb := bw_spec ih
    rw [bkD_step (i := i + 1) (by omega) hp hq, bwOk, ins_ok h hx hl i d r hd hr, hb.2.1, decide_eq_true (by rw [hb.1]; exact (okMd_chain h hp hd).symm)]; rfl
/-- the gradients of a micro-batch have the sizes of the parameters -/
theorem microG_rows {ds : List OpD} {x t : List Int} (h : fitP ds x t = true) : (microG ds x t).rows.length = ds.length ∧ ∀ (j : Nat) (d : OpD) (r : List Int), ds[j]? = some d → (microG ds x t).rows[j]? = some r → r.length = d.p.length := by
  obtain ⟨hm, hx, hl, ht, htl⟩ := fitP_spec h
  have ho := out_ok hm hx hl
  have hp : pairV (outV ds x) t = true := pairV_mk ho.1 ht (by have := ho.2; omega)
  have hv := vSub_specZ hp
  rw [microG, if_pos h]
  refine ⟨by rw [bkR]; simp, fun j d r hd hr => ?_⟩
  have hjl := (List.getElem?_eq_some_iff.1 hd).1
  rw [bkR, List.getElem?_map, List.getElem?_range hjl] at hr
  obtain rfl : bkG ds (insR ds x) (vSub (outV ds x) t) j = r := by simpa using hr
  obtain ⟨q, hq⟩ : ∃ q, (insR ds x)[j]? = some q := ⟨_, List.getElem?_eq_getElem (by rw [insR_len]; omega)⟩
  rw [bkG_step (j := ds.length - 1 - j) (by omega) hd hq]
  have hb := bw_spec (bk_ok hm hx hl hv.2 (by rw [hv.1]; exact ho.2) (ds.length - 1 - j) j d q (by omega) hd hq)
  have := (okOd_spec (okMd_op hm hd)).2.2.2.2.2.2.2.1
  omega
theorem microG_loss (ds : List OpD) (x t : List Int) : 0 ≤ (microG ds x t).loss := by
  rw [microG]; split
  · exact Int.ediv_nonneg (vDot_sq _) (by omega)
  · exact Int.le_refl _
/-- a batch that fits: each of its pairs does -/
theorem okBatch_at {ds : List OpD} {ps : List PrD} (h : okBatch ds ps = true) {j : Nat} {p : PrD} (hp : ps[j]? = some p) : fitP ds p.x p.t = true := by
  simp only [okBatch, Bool.and_eq_true, List.all_eq_true] at h
  exact h.2 p (List.mem_of_getElem? hp)
theorem seqG_no {ds : List OpD} {ps : List PrD} (h : okBatch ds ps = false) : seqG ds ps = ⟨[], 0, false⟩ := by rw [seqG, h]; rfl
theorem seqG_yes {ds : List OpD} {ps : List PrD} (h : okBatch ds ps = true) : seqG ds ps = seqGo ds (zeroG ds) ps := by rw [seqG, if_pos h]
end Go.Proofs.Ytehfglfbnjdcoaa
