/-
  The contracts of MatBack.
-/
import Derived.Test.YtceeijbnhnpfgaaTran
import Derived.WalkKit
namespace Go.Proofs.Ytceeijbnhnpfgaa
open Go.RowKit

theorem NewI.since {e : TypeId} {w w1 w' : World} {xs : List Int} {v : Value} (h : NewI e w1 xs v w') (hb : Below w.heap.size w w1) : NewI e w xs v w' :=
  ⟨h.1.more hb.size (Nat.le_refl _), hb.trans (h.2.mono hb.size)⟩
theorem mbOk_no {r c : Int} {xs ys : List Int} (h : mbOk r c xs ys = false) : mBack r c xs ys = [] ∧ mBackS r c xs ys = false := by
  rw [mBack, mBackS, h]; exact ⟨rfl, rfl⟩
set_option maxHeartbeats 4000000 in
theorem impl_MatBack {B n cap B' n' c' : Nat} {A A' : Option Addr} {xs ys : List Int} (r c : Int) (w : World) (h : RI w B A n cap xs) (h' : RI w B' A' n' c' ys) (hB : B ≤ w.heap.size) (hB' : B' ≤ w.heap.size) (hn : n ≤ 1048576) (hn' : n' ≤ 1048576) :
    Calls Try.prog 18 #[Matv r c A n cap, .slice A' n' c'] w (GivesB (mBackS r c xs ys) (NI w (mBack r c xs ys))) := by
  obtain ⟨wb, hwb⟩ : ∃ wb, wb = w.alloc (.cells #[.int .i64 r, .int .i64 c, .slice A n cap] 38) := ⟨_, rfl⟩
  have hb0 : Below w.heap.size w wb := hwb ▸ (Below.refl _ _).alloc (Nat.le_refl _) _
  have x0 : wb.cell? ⟨w.heap.size, 0, none⟩ = some (.int .i64 r) := by rw [hwb]; simp
  have x1 : wb.cell? ⟨w.heap.size, 1, none⟩ = some (.int .i64 c) := by rw [hwb]; simp
  have x2 : wb.cell? ⟨w.heap.size, 2, none⟩ = some (.slice A n cap) := by rw [hwb]; simp
  have hsb := hb0.size
  have HOK := hide (impl_MatOk r c wb (h.below (hb0.mono hB)) (by omega) hn)
  have HV := hide (fun (W : World) (hW : Below w.heap.size w W) => impl_vecOf r W (h'.below (hW.mono hB')) hn')
  have HT := hide (fun (W : World) (hW : Below w.heap.size w W) => impl_Transpose r c W (h.below (hW.mono hB)) (by have := hW.size; omega) hn)
  have HM := hide (fun (W : World) (A1 : Option Addr) (n1 c1 : Nat) (hW : Below w.heap.size w W) (h1 : RI W W.heap.size A1 n1 c1 (mTr r c xs)) => impl_MatVec (mTrR r c xs) (mTrC r c xs) W h1 (h'.below (hW.mono hB')) (Nat.le_refl _) (by have := hW.size; omega) (by rw [← h1.1]; have := mTr_len r c xs; omega) hn')
  have HW := hide hwb
  clear hwb h h' hn hn'
  by_cases hok : okM r c xs = true
  case neg =>
    have hof : okM r c xs = false := by simpa using hok
    have HF := hide (mbOk_no (r := r) (c := c) (xs := xs) (ys := ys) (by rw [mbOk, hof]; rfl))
    rw [hof] at HOK
    clear hok hof
    go_enter Try.func18, Try.ntmps18
    go_wp2_with fail
    rw [← HW.out]
    refine HOK.out.mono ?_
    rintro e w1 ⟨rfl, hb1⟩
    go_wp2_with fail
    go_ret2
    exact givesB HF.out.2.symm ⟨by rw [HF.out.1]; exact OI.nil _ _ _ _, hb0.trans (hb1.mono hsb)⟩
  rw [hok] at HOK
  by_cases hv : (okV ys && decide ((ys.length : Int) = r)) = true
  case neg =>
    have hvf : (okV ys && decide ((ys.length : Int) = r)) = false := by simpa using hv
    have HF := hide (mbOk_no (r := r) (c := c) (xs := xs) (ys := ys) (by rw [mbOk, hok, Bool.true_and]; exact hvf))
    rw [hvf] at HV
    clear hok hv hvf
    go_enter Try.func18, Try.ntmps18
    go_wp2_with fail
    rw [← HW.out]
    refine HOK.out.mono ?_
    rintro e w1 ⟨rfl, hb1⟩
    replace x0 := cellB hb1 x0
    have hbw := hb0.trans (hb1.mono hsb)
    go_wp2_with fail
    refine (HV.out _ hbw).mono ?_
    rintro e w' ⟨rfl, rfl⟩
    go_wp2_with fail
    go_ret2
    exact givesB HF.out.2.symm ⟨by rw [HF.out.1]; exact OI.nil _ _ _ _, hbw⟩
  have hmb : mbOk r c xs ys = true := by rw [mbOk, hok, Bool.true_and]; exact hv
  have HE := hide (mBack_vec r c xs ys hmb)
  have HR := hide (show mTrR r c xs = c ∧ mTrC r c xs = r from by rw [mTrR, mTrC, if_pos hok, if_pos hok]; exact ⟨rfl, rfl⟩)
  rw [hv] at HV
  clear hok hv hmb
  go_enter Try.func18, Try.ntmps18
  go_wp2_with fail
  rw [← HW.out]
  refine HOK.out.mono ?_
  rintro e w1 ⟨rfl, hb1⟩
  replace x0 := cellB hb1 x0
  replace x1 := cellB hb1 x1
  replace x2 := cellB hb1 x2
  have hbw := hb0.trans (hb1.mono hsb)
  go_wp2_with fail
  refine (HV.out _ hbw).mono ?_
  rintro e w' ⟨rfl, rfl⟩
  go_wp2_with fail
  refine (HT.out _ hbw).mono ?_
  rintro e w2 ⟨A1, n1, c1, rfl, ho, hb2⟩
  have hbw2 := hbw.trans (hb2.mono hbw.size)
  have hri := ho.ri
  go_wp2_with fail
  refine (HM.out w2 A1 n1 c1 hbw2 hri).mono ?_
  rintro e w3 ⟨v, rfl, hq⟩
  have HQ := hide hq
  clear hq hri ho
  go_wp2_with fail
  go_ret2
  obtain ⟨E1, E2⟩ := HE.out
  obtain ⟨R1, R2⟩ := HR.out
  have hq := HQ.out
  rw [R1, R2, E1] at hq
  exact givesB (by rw [R1, R2, E2]) (hq.since hbw2)
end Go.Proofs.Ytceeijbnhnpfgaa
