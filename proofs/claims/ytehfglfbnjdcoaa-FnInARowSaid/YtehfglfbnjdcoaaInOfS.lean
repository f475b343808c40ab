/-
  The contracts of spec.InOf, OutOf, WordsOf.
-/
import Derived.Test.YtehfglfbnjdcoaaJPlain
import Derived.Test.YtehfglfbnjdcoaaOpS
import Derived.Test.YtehfglfbnjdcoaaModelS
import Derived.WalkKit
import Derived.BigQuiet
import Derived.Lib.QuietBelow
namespace Go.Proofs.Ytehfglfbnjdcoaa
open Go.RowKit Go.Sort
set_option maxRecDepth 100000

set_option maxHeartbeats 1000000 in
theorem spec_InOf {B n c : Nat} {A : Option Addr} {ds : List OpD} (w : World) (h : RL 4 w B A n c (ds.flatMap opF)) (hB : B ≤ w.heap.size) (hn : n ≤ 1048576) (hsm : SmO ds) :
    Calls Try.prog 106 #[Modv A n c] w fun e w' => e = .returned (.int .i64 (mIn ds)) ∧ Below w.heap.size w w' := by
  have hl := hide (h.row opF_len (by omega))
  obtain ⟨wb, hwb⟩ : ∃ wb, wb = (w.alloc (.cells #[.slice A n c] 36)) := ⟨_, rfl⟩
  have hb0 : Below w.heap.size w wb := hwb ▸ (Below.refl _ _).alloc (Nat.le_refl _) _
  have x0 : wb.cell? ⟨w.heap.size, 0, none⟩ = some (.slice A n c) := by rw [hwb]; simp
  have hsb := hb0.size
  have hlt0 : w.heap.size < wb.heap.size := by rw [hwb]; simp
  have HW := hide hwb
  clear hwb
  have HOK := hide (spec_ModelOk wb (h.below (hb0.mono hB)) (by omega) hn hsm)
  clear hsm
  cases hok : okMd ds with
  | false =>
    have HR := hide (show mIn ds = 0 from by rw [mIn, hok]; rfl)
    rw [hok] at HOK
    clear h hok
    go_enter Try.func106, Try.ntmps106
    go_wp2_with fail
    rw [← HW.out]
    refine HOK.out.mono ?_
    rintro e w1 ⟨rfl, hb1⟩
    go_wp2_with fail
    go_ret
    exact ⟨rI HR.out.symm, hb0.trans (hb1.mono hsb)⟩
  | true =>
    have hlen := okMd_len hok
    rw [hl.out] at hlen
    obtain ⟨b, off, d, A1, n1, c1, rfl, hbB, hd, e0, e1, e2, e3, _⟩ := h.opAt (j := 0) (by omega)
    have HR := hide (show mIn ds = d.i from by
      rw [mIn, if_pos hok]
      cases ds with
      | nil => simp at hd
      | cons a r => simp at hd; subst hd; rfl)
    rw [hok] at HOK
    simp only [Nat.zero_mul, Nat.add_zero] at e1
    have hbk : b < w.heap.size := by omega
    have h3 : (0 : Int) < (n : Int) := by omega
    clear h hok hd e0 e2 e3
    go_enter Try.func106, Try.ntmps106
    go_wp2_with fail
    rw [← HW.out]
    refine HOK.out.mono ?_
    rintro e w1 ⟨rfl, hb1⟩
    have hbf := hb0.trans (hb1.mono hsb)
    have y1 := (hbf.cell (p := ⟨b, off + 1, none⟩) hbk).trans e1
    have y0 := cellB hb1 x0
    clear e1 x0 hb1
    go_wp2_with fail
    go_ret
    exact ⟨rI HR.out.symm, hbf⟩
set_option maxHeartbeats 1000000 in
theorem spec_OutOf {B n c : Nat} {A : Option Addr} {ds : List OpD} (w : World) (h : RL 4 w B A n c (ds.flatMap opF)) (hB : B ≤ w.heap.size) (hn : n ≤ 1048576) (hsm : SmO ds) :
    Calls Try.prog 116 #[Modv A n c] w fun e w' => e = .returned (.int .i64 (mOutN ds)) ∧ Below w.heap.size w w' := by
  have hl := hide (h.row opF_len (by omega))
  obtain ⟨wb, hwb⟩ : ∃ wb, wb = (w.alloc (.cells #[.slice A n c] 36)) := ⟨_, rfl⟩
  have hb0 : Below w.heap.size w wb := hwb ▸ (Below.refl _ _).alloc (Nat.le_refl _) _
  have x0 : wb.cell? ⟨w.heap.size, 0, none⟩ = some (.slice A n c) := by rw [hwb]; simp
  have hsb := hb0.size
  have hlt0 : w.heap.size < wb.heap.size := by rw [hwb]; simp
  have HW := hide hwb
  clear hwb
  have HOK := hide (spec_ModelOk wb (h.below (hb0.mono hB)) (by omega) hn hsm)
  clear hsm
  cases hok : okMd ds with
  | false =>
    have HR := hide (show mOutN ds = 0 from by rw [mOutN, hok]; rfl)
    rw [hok] at HOK
    clear h hok
    go_enter Try.func116, Try.ntmps116
    go_wp2_with fail
    rw [← HW.out]
    refine HOK.out.mono ?_
    rintro e w1 ⟨rfl, hb1⟩
    go_wp2_with fail
    go_ret
    exact ⟨rI HR.out.symm, hb0.trans (hb1.mono hsb)⟩
  | true =>
    have hlen := okMd_len hok
    rw [hl.out] at hlen
    obtain ⟨k, hk⟩ : ∃ k, n = k + 1 := ⟨n - 1, by omega⟩
    obtain ⟨b, off, d, A1, n1, c1, rfl, hbB, hd, e0, e1, e2, e3, _⟩ := h.opAt (j := k) (by omega)
    have HR := hide (show mOutN ds = d.o from by
      rw [mOutN, if_pos hok, List.getLast?_eq_getElem?, hl.out, hk, Nat.add_sub_cancel, hd])
    rw [hok] at HOK
    have hbk : b < w.heap.size := by omega
    have hm1 : (n : Int) - 1 = (k : Int) := by omega
    have h3 : (0 : Int) ≤ (k : Int) := by omega
    have h4 : (k : Int) < (n : Int) := by omega
    clear h hok hd e0 e1 e3 hk
    go_enter Try.func116, Try.ntmps116
    go_wp2_with fail
    rw [← HW.out]
    refine HOK.out.mono ?_
    rintro e w1 ⟨rfl, hb1⟩
    have hbf := hb0.trans (hb1.mono hsb)
    have y1 := (hbf.cell (p := ⟨b, off + k * 4 + 2, none⟩) hbk).trans e2
    have y0 := cellB hb1 x0
    clear e2 x0 hb1
    go_wp2_with fail
    go_ret
    exact ⟨rI HR.out.symm, hbf⟩
end Go.Proofs.Ytehfglfbnjdcoaa
