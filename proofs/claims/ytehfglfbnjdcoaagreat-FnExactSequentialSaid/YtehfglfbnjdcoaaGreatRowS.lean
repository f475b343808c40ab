/-
  The laws' own functions over slices of records (Row).
-/
import Derived.Test.YtehfglfbnjdcoaaGreatProg
import Derived.Test.YtehfglfbnjdcoaaGreatStru
import Derived.Test.YtehfglfbnjdcoaaGreatRec
import Derived.WalkKit
import Derived.BigQuiet
import Derived.Lib.QuietBelow
namespace Go.Proofs.YtehfglfbnjdcoaaGreat
open Go.RowKit Go.Sort
set_option maxRecDepth 100000

/-- a value of the struct -/
abbrev Rowv (A : Option Addr) (n cap : Nat) : Value := .agg #[.slice A n cap]
theorem laws_eqRow {B n cap B' n' cap' : Nat} {A A' : Option Addr} {xs : List Int} (w : World) (h : RI w B A n cap xs) (h' : RI w B' A' n' cap' xs) (hB : B ≤ w.heap.size) (hB' : B' ≤ w.heap.size) (hx : xs.length ≤ 1048576) :
    Calls Tryz.prog 58 #[Rowv A n cap, Rowv  A' n' cap'] w fun e w' => e = .returned (.bool true) ∧ Below w.heap.size w w' := by
  obtain ⟨wb, hwb⟩ : ∃ wb, wb = ((w.alloc (.cells #[.slice A n cap] 72)).alloc (.cells #[.slice A' n' cap'] 72)) := ⟨_, rfl⟩
  have hb : Below w.heap.size w wb := hwb ▸ (((Below.refl _ _).alloc (Nat.le_refl _) _).alloc (by simp) _)
  have HE := hide (eqI_same wb (h.below (hb.mono hB)) (h'.below (hb.mono hB')) hx)
  have HB := hide hb
  have HW := hide hwb
  clear h h' hx hb hwb
  go_enter Tryz.func58, Tryz.ntmps58
  go_wp2_with fail
  rw [← HW.out]
  refine HE.out.mono ?_
  rintro e w2 ⟨rfl, hb2⟩
  go_wp2_with fail
  go_ret
  exact ⟨rfl, HB.out.trans (hb2.mono HB.out.size)⟩
abbrev OwRows := OL 3 72 1
theorem row_info : (Tryz.prog.info? 72).map (fun i => (i.zero, i.size, i.bytes)) = some (some (.agg #[.slice none 0 0]), 1, 24) := by kernel_rfl
theorem madeRow (w : World) (n : Nat) (hn : n ≤ 1048576) : OwRows (w.alloc (.cells (madeCells #[.slice none 0 0] (n * 1)) 72)) w.heap.size (w.heap.size + 1) (.slice (some ⟨w.heap.size, 0, none⟩) n n) n ((List.replicate n ([] : List Int)).flatMap rowF) := by
  refine OL.made w rowF ([] : List Int) (by omega) rowF_len _ rfl hn (fun i v f hv hf W lo hi => ?_) (fun i v hv => ?_)
  · match i with
    | 0 => simp at hv; simp [rowF] at hf; subst hv; subst hf; exact OI.nil _ _ _ _
    | i + 1 => simp at hv
  · match i with
    | 0 => simp at hv; subst hv; rfl
    | i + 1 => simp at hv
theorem laws_eqRowS {B n c B' n' c' : Nat} {A A' : Option Addr} {ds : List (List Int)} (w : World) (h : RL 1 w B A n c (ds.flatMap rowF)) (h' : RL 1 w B' A' n' c' (ds.flatMap rowF)) (hB : B ≤ w.heap.size) (hB' : B' ≤ w.heap.size) (hn : n ≤ 1048576) (hsm : SmR ds) :
    Calls Tryz.prog 29 #[.slice A n c, .slice A' n' c'] w fun e w' => e = .returned (.bool true) ∧ Below w.heap.size w w' := by
  have hl := hide (h.row rowF_len (by omega))
  obtain rfl : n = n' := by have := h'.row rowF_len (by omega); rw [← hl.out]; exact this
  have HSM := hide hsm
  clear hsm
  go_enter Tryz.func29, Tryz.ntmps29
  go_wp2
  go_loopw [5] (fun i wr => ∃ k : Nat, k ≤ n ∧ i = .int .i64 (k : Int) ∧ Below w.heap.size w wr)
    (fun i _ => n - (intOf i).toNat)
  case atStart => exact ⟨0, Nat.zero_le _, rfl, Below.refl _ _⟩
  case round =>
    obtain ⟨k, hk, rfl, hb⟩ := hrel
    have hsz := hb.size
    by_cases hlt : k < n
    · obtain ⟨b, off, d, A1, n1, c1, rfl, hbB, hd, e0, hR⟩ := h.rowAt hlt
      obtain ⟨b2, off2, d2, A2, n2, c2, rfl, hbB2, hd2, g0, hR2⟩ := h'.rowAt hlt
      obtain rfl : d = d2 := by rw [hd] at hd2; simpa using hd2
      have hbw : b < w.heap.size := by omega
      have hbw2 : b2 < w.heap.size := by omega
      have h1 : (0 : Int) ≤ (k : Int) := by omega
      have h2 : (k : Int) < (n : Int) := by omega
      have y0 := cell_regrown ((hb.cell (p := ⟨b, off + k, none⟩) hbw).trans e0)
      have z0 := cell_regrown ((hb.cell (p := ⟨b2, off2 + k, none⟩) hbw2).trans g0)
      have HR1 := hR.below (hb.mono hB)
      have HR2 := hR2.below (hb.mono hB')
      have cE : ∀ d1 os, Calls Tryz.prog 58 #[Rowv A1 n1 c1, Rowv A2 n2 c2] (grow (redrawn wr d1) os) fun e w'' => e = .returned (.bool true) ∧ ∃ p : Regrown, w'' = grow (redrawn wr p.d) p.os :=
        fun d1 os => Calls.regrown_of (laws_eqRow _ (HR1.below ((below_regrown wr d1 os).mono (by omega))) (HR2.below ((below_regrown wr d1 os).mono (by omega))) (by have := (below_regrown wr d1 os).size; omega) (by have := (below_regrown wr d1 os).size; omega) (HSM.out k d hd))
      have CE := hide cE
      clear cE e0 g0 h h' hR hR2 hd hd2 HR1 HR2
      go_wp2_with fail
      refine wp_region_quiet_below (by kernel_rfl) (by kernel_rfl) ?_
      repeat (go_big_quiet_step (first | with_reducible exact CE.out _ _))
      refine wpQuiet_nil ?_
      intro _ hw'
      obtain ⟨⟨dq, osq⟩, hw''⟩ := hw'
      subst hw''
      have hq_w2 := below_regrown wr dq osq
      generalize grow (redrawn wr dq) osq = w2 at *
      go_wp2_with fail
      go_roundw
      case rel => exact ⟨k + 1, by omega, by go_num, hb.trans (hq_w2.mono hsz)⟩
      case measure => simp [intOf]; omega
    · have hkn : n ≤ k := by omega
      clear h h'
      go_wp2_with fail
      go_ret
      exact ⟨rfl, hb⟩
end Go.Proofs.YtehfglfbnjdcoaaGreat
