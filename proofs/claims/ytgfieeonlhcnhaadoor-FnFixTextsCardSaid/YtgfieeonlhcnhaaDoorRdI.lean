/-
  impl.ReadDec
-/
import Derived.Test.YtgfieeonlhcnhaaDoorDecI
import Derived.Test.YtgfieeonlhcnhaaDoorPlainE
import Derived.Lib.AtoiErrMem
import Derived.WalkKit
namespace Go.Proofs.YtgfieeonlhcnhaaDoor
open Go.RowKit
set_option maxRecDepth 100000
theorem atoi_bd {l : List UInt8} {n : Int} (h : Lib.atoiAll l = .ok n) : -9223372036854775808 ≤ n ∧ n ≤ 9223372036854775807 := by
  unfold Lib.atoiAll at h
  split at h
  · cases h
  · simp only [] at h
    split at h
    · cases h
    · cases h
    · split at h
      · cases h
      · rename_i h1
        split at h
        · cases h
        · rename_i h2
          injection h with h
          split at h <;> omega
theorem impl_ReadDec (s : ByteArray) (hs : s.size ≤ 1048576) (w : World) (hT : Tab w) (hE : Errs w) :
    Calls Tryd.prog 18 #[.string s] w fun e w' => e = .returned (rdecV s.data.toList) ∧ Below w.heap.size w w' := by
  obtain ⟨tp, p, tq, q, hv1, hv2⟩ := hE
  rcases hA : Lib.atoiAll s.data.toList with n | _ | _
  rotate_left
  · skip
    go_enter Tryd.func18, Tryd.ntmps18
    go_wp2_with fail
    refine (Tryd.strconv_Atoi_syntax_var s (by omega) hA tp p w hv1).mono ?_
    rintro e w1 ⟨N, rfl, -, -, hb⟩
    go_wp2_with fail
    go_ret2
    exact ⟨by rw [rdecV_none (rdec_syn hA)]; rfl, hb⟩
  · skip
    go_enter Tryd.func18, Tryd.ntmps18
    go_wp2_with fail
    refine (Tryd.strconv_Atoi_range_var s (by omega) hA tq q w hv2).mono ?_
    rintro e w1 ⟨N, rfl, -, -, hb⟩
    go_wp2_with fail
    go_ret2
    exact ⟨by rw [rdecV_none (rdec_ran hA)]; rfl, hb⟩
  · skip
    have hbd := atoi_bd hA
    have hbd0 := hbd.1
    have hbd1 := hbd.2
    have HR := hide (rdec_ok hA)
    have HA := hide hA
    clear hA hbd
    go_enter Tryd.func18, Tryd.ntmps18
    go_wp2_with fail
    refine (Tryd.strconv_Atoi_ok s (by omega) n HA.out w).mono ?_
    rintro e w1 ⟨rfl, hw⟩
    have hb : Below w.heap.size w w1 := by
      rcases hw with rfl | ⟨t, rfl⟩
      · exact Below.refl _ _
      · exact Lib.bytesWorld_below _ _ _
    clear hw
    go_wp2_with fail
    refine (impl_Dec n hbd0 hbd1 w1 (hT.below hb)).mono ?_
    rintro e w2 ⟨rfl, hb2⟩
    have hb3 := hb.trans (hb2.mono hb.size)
    obtain ⟨x, hx⟩ : ∃ x : ByteArray, x = ⟨(Lib.itoa n).toArray⟩ := ⟨_, rfl⟩
    rw [← hx]
    have HX := hide hx
    clear hx
    by_cases he : x = s
    · have hl : Lib.itoa n = s.data.toList := by rw [← he, HX.out]
      have HL := hide hl
      clear HX hl
      subst he
      by_cases h1 : n < -999999999
      · go_wp2_with fail
        go_ret2
        exact ⟨by rw [rdecV_none (by rw [HR.out, if_neg (by omega)])]; rfl, hb3⟩
      by_cases h2 : 999999999 < n
      · go_wp2_with fail
        go_ret2
        exact ⟨by rw [rdecV_none (by rw [HR.out, if_neg (by omega)])]; rfl, hb3⟩
      go_wp2_with fail
      go_ret2
      exact ⟨by rw [rdecV_some (by rw [HR.out, if_pos ⟨HL.out, by omega, by omega⟩])]; rfl, hb3⟩
    · have hne : (x.toList == s.toList) = false := by
        rw [beq_eq_false_iff_ne]
        intro h
        exact he (ByteArray.ext (by simpa [Go.ByteArray.toList_eq] using h))
      have hnone : rdec s.data.toList = none := by
        rw [HR.out, if_neg]
        rintro ⟨h, -⟩
        apply he
        rw [HX.out, h]
      have HN := hide hnone
      clear hnone
      go_wp2_with fail
      go_ret2
      exact ⟨by rw [rdecV_none HN.out]; rfl, hb3⟩
end Go.Proofs.YtgfieeonlhcnhaaDoor
