/-
  The contracts of spec.InOf, OutOf, WordsOf.
-/
import Derived.Test.YtjaejhhmcpmcfaaPlainO
import Derived.Test.YtjaejhhmcpmcfaaOpS
import Derived.Test.YtjaejhhmcpmcfaaModelS
import Derived.WalkKit
import Derived.BigQuiet
import Derived.Lib.QuietBelow
namespace Go.Proofs.Ytjaejhhmcpmcfaa
open Go.RowKit Go.Sort

set_option maxHeartbeats 1000000 in
theorem spec_InOf {B n c : Nat} {A : Option Addr} {ds : List OpD} (w : World) (h : RL 4 w B A n c (ds.flatMap opF)) (hB : B ≤ w.heap.size) (hn : n ≤ 1048576) (hsm : SmO ds) :
    Calls Try.prog 45 #[Modv A n c] w fun e w' => e = .returned (.int .i64 (mIn ds)) ∧ Below w.heap.size w w' := by
  have hl := hide (h.row opF_len (by omega))
  obtain ⟨wb, hwb⟩ : ∃ wb, wb = (w.alloc (.cells #[.slice A n c] 55)) := ⟨_, rfl⟩
  have hb0 : Below w.heap.size w wb := hwb ▸ (Below.refl _ _).alloc (Nat.le_refl _) _
  have x0 : wb.cell? ⟨w.heap.size, 0, none⟩ = some (.slice A n c) := by rw [hwb]; simp
  have hsb := hb0.size
  have hlt0 : w.heap.size < wb.heap.size := by rw [hwb]; simp
  have HW := hide hwb
  clear hwb
  have HOK := hide (spec_ModelOk wb (h.below (hb0.mono hB)) (by omega) hn hsm)
  clear hsm
  cases hok : okMd ds with
  | false =>
    have HR := hide (show mIn ds = 0 from by rw [mIn, hok]; rfl)
    rw [hok] at HOK
    clear h hok
    go_enter Try.func45, Try.ntmps45
    go_wp2_with fail
    rw [← HW.out]
    refine HOK.out.mono ?_
    rintro e w1 ⟨rfl, hb1⟩
    go_wp2_with fail
    go_ret
    exact ⟨rI HR.out.symm, hb0.trans (hb1.mono hsb)⟩
  | true =>
    have hlen := okMd_len hok
    rw [hl.out] at hlen
    obtain ⟨b, off, d, A1, n1, c1, rfl, hbB, hd, e0, e1, e2, e3, _⟩ := h.opAt (j := 0) (by omega)
    have HR := hide (show mIn ds = d.i from by
      rw [mIn, if_pos hok]
      cases ds with
      | nil => simp at hd
      | cons a r => simp at hd; subst hd; rfl)
    rw [hok] at HOK
    simp only [Nat.zero_mul, Nat.add_zero] at e1
    have hbk : b < w.heap.size := by omega
    have h3 : (0 : Int) < (n : Int) := by omega
    clear h hok hd e0 e2 e3
    go_enter Try.func45, Try.ntmps45
    go_wp2_with fail
    rw [← HW.out]
    refine HOK.out.mono ?_
    rintro e w1 ⟨rfl, hb1⟩
    have hbf := hb0.trans (hb1.mono hsb)
    have y1 := (hbf.cell (p := ⟨b, off + 1, none⟩) hbk).trans e1
    have y0 := cellB hb1 x0
    clear e1 x0 hb1
    go_wp2_with fail
    go_ret
    exact ⟨rI HR.out.symm, hbf⟩
set_option maxHeartbeats 1000000 in
theorem spec_OutOf {B n c : Nat} {A : Option Addr} {ds : List OpD} (w : World) (h : RL 4 w B A n c (ds.flatMap opF)) (hB : B ≤ w.heap.size) (hn : n ≤ 1048576) (hsm : SmO ds) :
    Calls Try.prog 47 #[Modv A n c] w fun e w' => e = .returned (.int .i64 (mOutN ds)) ∧ Below w.heap.size w w' := by
  have hl := hide (h.row opF_len (by omega))
  obtain ⟨wb, hwb⟩ : ∃ wb, wb = (w.alloc (.cells #[.slice A n c] 55)) := ⟨_, rfl⟩
  have hb0 : Below w.heap.size w wb := hwb ▸ (Below.refl _ _).alloc (Nat.le_refl _) _
  have x0 : wb.cell? ⟨w.heap.size, 0, none⟩ = some (.slice A n c) := by rw [hwb]; simp
  have hsb := hb0.size
  have hlt0 : w.heap.size < wb.heap.size := by rw [hwb]; simp
  have HW := hide hwb
  clear hwb
  have HOK := hide (spec_ModelOk wb (h.below (hb0.mono hB)) (by omega) hn hsm)
  clear hsm
  cases hok : okMd ds with
  | false =>
    have HR := hide (show mOutN ds = 0 from by rw [mOutN, hok]; rfl)
    rw [hok] at HOK
    clear h hok
    go_enter Try.func47, Try.ntmps47
    go_wp2_with fail
    rw [← HW.out]
    refine HOK.out.mono ?_
    rintro e w1 ⟨rfl, hb1⟩
    go_wp2_with fail
    go_ret
    exact ⟨rI HR.out.symm, hb0.trans (hb1.mono hsb)⟩
  | true =>
    have hlen := okMd_len hok
    rw [hl.out] at hlen
    obtain ⟨k, hk⟩ : ∃ k, n = k + 1 := ⟨n - 1, by omega⟩
    obtain ⟨b, off, d, A1, n1, c1, rfl, hbB, hd, e0, e1, e2, e3, _⟩ := h.opAt (j := k) (by omega)
    have HR := hide (show mOutN ds = d.o from by
      rw [mOutN, if_pos hok, List.getLast?_eq_getElem?, hl.out, hk, Nat.add_sub_cancel, hd])
    rw [hok] at HOK
    have hbk : b < w.heap.size := by omega
    have hm1 : (n : Int) - 1 = (k : Int) := by omega
    have h3 : (0 : Int) ≤ (k : Int) := by omega
    have h4 : (k : Int) < (n : Int) := by omega
    clear h hok hd e0 e1 e3 hk
    go_enter Try.func47, Try.ntmps47
    go_wp2_with fail
    rw [← HW.out]
    refine HOK.out.mono ?_
    rintro e w1 ⟨rfl, hb1⟩
    have hbf := hb0.trans (hb1.mono hsb)
    have y1 := (hbf.cell (p := ⟨b, off + k * 4 + 2, none⟩) hbk).trans e2
    have y0 := cellB hb1 x0
    clear e2 x0 hb1
    go_wp2_with fail
    go_ret
    exact ⟨rI HR.out.symm, hbf⟩
set_option maxHeartbeats 1000000 in
theorem spec_WordsOf {B n c : Nat} {A : Option Addr} {ds : List OpD} (w : World) (h : RL 4 w B A n c (ds.flatMap opF)) (hB : B ≤ w.heap.size) (hn : n ≤ 1048576) (hsm : SmO ds) :
    Calls Try.prog 49 #[Modv A n c] w fun e w' => e = .returned (.int .i64 (mWords ds)) ∧ Below w.heap.size w w' := by
  have hl := hide (h.row opF_len (by omega))
  obtain ⟨wb, hwb⟩ : ∃ wb, wb = (w.alloc (.cells #[.slice A n c] 55)) := ⟨_, rfl⟩
  have hb0 : Below w.heap.size w wb := hwb ▸ (Below.refl _ _).alloc (Nat.le_refl _) _
  have x0 : wb.cell? ⟨w.heap.size, 0, none⟩ = some (.slice A n c) := by rw [hwb]; simp
  have hsb := hb0.size
  have hlt0 : w.heap.size < wb.heap.size := by rw [hwb]; simp
  have HW := hide hwb
  clear hwb
  have HOK := hide (fun (W : World) (hW : Below w.heap.size w W) => spec_ModelOk W (h.below (hW.mono hB)) (by have := hW.size; omega) hn hsm)
  clear hsm
  cases hok : okMd ds with
  | false =>
    have HR := hide (show mWords ds = 0 from by rw [mWords, hok]; rfl)
    rw [hok] at HOK
    clear h hok
    go_enter Try.func49, Try.ntmps49
    go_wp2_with fail
    rw [← HW.out]
    go_loopw [3, 4] (fun q i wr => q = .int .i64 0 ∧ i = .int .i64 0 ∧ wr = wb) (fun _ _ _ => 0)
    case atStart => exact ⟨rfl, rfl, rfl⟩
    case round =>
      obtain ⟨rfl, rfl, rfl⟩ := hrel
      by_cases h0 : 0 < n
      · have h0' : (0 : Int) < (n : Int) := by omega
        go_wp2_with fail
        refine (HOK.out _ hb0).mono ?_
        rintro e w1 ⟨rfl, hb1⟩
        go_wp2_with fail
        go_ret
        exact ⟨rI HR.out.symm, hb0.trans (hb1.mono hsb)⟩
      · have h0' : ¬ (0 : Int) < (n : Int) := by omega
        go_wp2_with fail
        go_ret
        exact ⟨rI HR.out.symm, hb0⟩
  | true =>
    have hlen := okMd_len hok
    rw [hl.out] at hlen
    obtain ⟨ls, hls⟩ : ∃ ls, ls = ds.map fun d => d.p.length := ⟨_, rfl⟩
    have HLS := hide hls
    have HR := hide (show mWords ds = (sumN ls : Nat) from by rw [mWords, if_pos hok, hls])
    have HB36 := hide (fun (j l : Nat) (h : ls[j]? = some l) => show l ≤ 36 from by
      rw [hls, List.getElem?_map] at h
      obtain ⟨d, hd, rfl⟩ := Option.map_eq_some_iff.1 h
      exact okOd_len (okMd_op hok hd))
    rw [hok] at HOK
    clear hok hls hn
    go_enter Try.func49, Try.ntmps49
    go_wp2_with fail
    rw [← HW.out]
    go_loopw [3, 4] (fun q i wr => ∃ k : Nat, k ≤ n ∧ i = .int .i64 (k : Int) ∧ (∃ z : Nat, q = .int .i64 (z : Int) ∧ Hid (z = sumN (ls.take k)) ∧ z ≤ k * 36) ∧ Below wb.heap.size wb wr)
      (fun _ i _ => n - (intOf i).toNat)
    case atStart => exact ⟨0, Nat.zero_le _, rfl, ⟨0, rfl, rfl, Nat.le_refl _⟩, Below.refl _ _⟩
    case round =>
      obtain ⟨k, hk, rfl, ⟨z, rfl, hz, hz36⟩, hb⟩ := hrel
      have hbw : Below w.heap.size w wr := hb0.trans (hb.mono hsb)
      have hsr := hb.size
      have y0 : wr.cell? ⟨w.heap.size, 0, none⟩ = some (.slice A n c) := (hb.cell (p := ⟨w.heap.size, 0, none⟩) hlt0).trans x0
      clear x0
      by_cases hlt : k < n
      · obtain ⟨b, off, d, A1, n1, c1, rfl, hbB, hd, e0, e1, e2, e3, hR⟩ := h.opAt hlt
        have hbk : b < w.heap.size := by omega
        have hlk : ls[k]? = some n1 := by rw [HLS.out, List.getElem?_map, hd]; simp [hR.1]
        have hn36 := HB36.out k n1 hlk
        have HS := hide (show z + n1 = sumN (ls.take (k + 1)) from by rw [sumN_take ls k n1 hlk, hz.out])
        have hlt' : (k : Int) < (n : Int) := by omega
        clear e0 e1 e2 hR hd hlk h
        go_wp2_with fail
        refine (HOK.out _ hbw).mono ?_
        rintro e w1 ⟨rfl, hb1⟩
        have y1 := cellB hb1 y0
        have z3 := ((hbw.trans (hb1.mono (by omega))).cell (p := ⟨b, off + k * 4 + 3, none⟩) hbk).trans e3
        clear e3 y0
        go_wp2_with fail
        go_roundw
        case rel => exact ⟨k + 1, by omega, by go_num, ⟨z + n1, by go_num, HS.out, by omega⟩, hb.trans (hb1.mono hsr)⟩
        case measure => simp [intOf]; omega
      · have hkn : n ≤ k := by omega
        have hlt' : ¬ (k : Int) < (n : Int) := by omega
        clear h
        go_wp2_with fail
        go_ret
        exact ⟨rI (by rw [HR.out, hz.out, List.take_of_length_le (by rw [HLS.out, List.length_map, hl.out]; exact hkn)]), hbw⟩
end Go.Proofs.Ytjaejhhmcpmcfaa
