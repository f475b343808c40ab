/-
  The contracts of OpCost.
-/
import Derived.Test.YtehfglfbnjdcoaaOp2
import Derived.Test.YtehfglfbnjdcoaaOp3
import Derived.WalkKit
namespace Go.Proofs.Ytehfglfbnjdcoaa
open Go.RowKit
set_option maxRecDepth 100000

set_option maxHeartbeats 1000000 in
theorem impl_OpCost {B n cap : Nat} {A : Option Addr} {xs : List Int} (k i o : Int) (w : World) (h : RI w B A n cap xs) (hB : B ≤ w.heap.size) (hn : n ≤ 1048576) :
    Calls Try.prog 64 #[Opv k i o A n cap] w fun e w' => e = .returned (.int .i64 (opCost k i o xs)) ∧ Below w.heap.size w w' := by
  obtain ⟨wb, hwb⟩ : ∃ wb, wb = (w.alloc (.cells #[.int .i64 k, .int .i64 i, .int .i64 o, .slice A n cap] 52)) := ⟨_, rfl⟩
  have hb : Below w.heap.size w wb := hwb ▸ (Below.refl _ _).alloc (Nat.le_refl _) _
  have x0 : wb.cell? ⟨w.heap.size, 0, none⟩ = some (.int .i64 k) := by rw [hwb]; simp
  have x1 : wb.cell? ⟨w.heap.size, 1, none⟩ = some (.int .i64 i) := by rw [hwb]; simp
  have x2 : wb.cell? ⟨w.heap.size, 2, none⟩ = some (.int .i64 o) := by rw [hwb]; simp
  have x3 : wb.cell? ⟨w.heap.size, 3, none⟩ = some (.slice A n cap) := by rw [hwb]; simp
  have HW := hide hwb
  clear hwb
  have HOK := hide (impl_OpOk k i o wb (h.below (hb.mono hB)) (by have := hb.size; omega) hn)
  clear h hn
  obtain ⟨z, hz⟩ : ∃ z, z = opCost k i o xs := ⟨_, rfl⟩
  rw [← hz]
  by_cases hok : okO k i o xs = true
  case neg =>
    have hf : okO k i o xs = false := by simpa using hok
    rw [hf] at HOK
    have HZ := hide (show (0 : Int) = z from by rw [hz, opCost, hf]; rfl)
    clear hz hok hf
    go_enter Try.func64, Try.ntmps64
    go_wp2_with fail
    rw [← HW.out]
    refine HOK.out.mono ?_
    rintro e w1 ⟨rfl, hb1⟩
    have y0 := cellB hb1 x0
    have y1 := cellB hb1 x1
    have y2 := cellB hb1 x2
    have y3 := cellB hb1 x3
    have HB1 := hb.trans (hb1.mono hb.size)
    clear hb1
    go_wp2_with fail
    go_ret
    exact ⟨rI HZ.out, HB1⟩
  have HZ := hide (show z = (if k = 1 ∨ k = 5 then i * o else if k = 4 then i else 0) from by rw [hz, opCost, if_pos hok])
  have hbd : 1 ≤ i ∧ i ≤ 6 ∧ 1 ≤ o ∧ o ≤ 6 := by
    rw [okO, Bool.and_eq_true, decide_eq_true_eq] at hok
    omega
  have hm := mul36 hbd.1 hbd.2.1 hbd.2.2.1 hbd.2.2.2
  rw [hok] at HOK
  clear hz hok
  obtain ⟨m, hme⟩ : ∃ m, i * o = m := ⟨_, rfl⟩
  rw [hme] at hm HZ
  by_cases k0 : k = 1
  · subst k0
    go_enter Try.func64, Try.ntmps64
    go_wp2_with fail
    rw [← HW.out]
    refine HOK.out.mono ?_
    rintro e w1 ⟨rfl, hb1⟩
    have y0 := cellB hb1 x0
    have y1 := cellB hb1 x1
    have y2 := cellB hb1 x2
    have y3 := cellB hb1 x3
    have HB1 := hb.trans (hb1.mono hb.size)
    clear hb1
    go_wp2_with fail
    go_ret
    exact ⟨rI (by rw [HZ.out]; simp), HB1⟩
  by_cases k1 : k = 5
  · subst k1
    go_enter Try.func64, Try.ntmps64
    go_wp2_with fail
    rw [← HW.out]
    refine HOK.out.mono ?_
    rintro e w1 ⟨rfl, hb1⟩
    have y0 := cellB hb1 x0
    have y1 := cellB hb1 x1
    have y2 := cellB hb1 x2
    have y3 := cellB hb1 x3
    have HB1 := hb.trans (hb1.mono hb.size)
    clear hb1
    go_wp2_with fail
    go_ret
    exact ⟨rI (by rw [HZ.out]; simp), HB1⟩
  by_cases k2 : k = 4
  · subst k2
    go_enter Try.func64, Try.ntmps64
    go_wp2_with fail
    rw [← HW.out]
    refine HOK.out.mono ?_
    rintro e w1 ⟨rfl, hb1⟩
    have y0 := cellB hb1 x0
    have y1 := cellB hb1 x1
    have y2 := cellB hb1 x2
    have y3 := cellB hb1 x3
    have HB1 := hb.trans (hb1.mono hb.size)
    clear hb1
    go_wp2_with fail
    go_ret
    exact ⟨rI (by rw [HZ.out]; simp), HB1⟩
  have e0 : (k == 1) = false := by simpa using k0
  have e1 : (k == 5) = false := by simpa using k1
  have e2 : (k == 4) = false := by simpa using k2
  have HZ' := hide (show (0 : Int) = z from by rw [HZ.out, if_neg (by omega), if_neg (by omega)])
  clear k0 k1 k2
  · go_enter Try.func64, Try.ntmps64
    go_wp2_with fail
    rw [← HW.out]
    refine HOK.out.mono ?_
    rintro e w1 ⟨rfl, hb1⟩
    have y0 := cellB hb1 x0
    have y1 := cellB hb1 x1
    have y2 := cellB hb1 x2
    have y3 := cellB hb1 x3
    have HB1 := hb.trans (hb1.mono hb.size)
    clear hb1
    go_wp2_with fail
    go_ret
    exact ⟨rI HZ'.out, HB1⟩
end Go.Proofs.Ytehfglfbnjdcoaa
