/-
  The laws' own functions that mark []Op and Model.
-/
import Derived.Test.YtehfglfbnjdcoaaGreatProg
import Derived.Test.YtehfglfbnjdcoaaGreatOpS
import Derived.Test.YtehfglfbnjdcoaaGreatMk
import Derived.WalkKit
namespace Go.Proofs.YtehfglfbnjdcoaaGreat
open Go.RowKit
set_option maxRecDepth 100000

set_option maxHeartbeats 1000000 in
theorem laws_markOpS {lo hi n c : Nat} {A : Option Addr} {ds : List OpD} (k0 : Int) (w : World) (h : OwOps w lo hi (.slice A n c) n (ds.flatMap opF)) (hn : n ≤ 1048576) (hsm : SmO ds) (hk0 : 0 ≤ k0) (hk1 : k0 + (mkN (ds.flatMap opF) : Int) ≤ 1000000000000) :
    Calls Tryz.prog 32 #[.slice A n c, .int .i64 k0] w fun e w' => e = .returned (.int .i64 (k0 + (mkN (ds.flatMap opF) : Int))) ∧ OwOps w' lo hi (.slice A n c) n (mkF k0 (ds.flatMap opF)) ∧ Only (fun b => lo ≤ b ∧ b < hi) w w' := by
  by_cases hn0 : n = 0
  · have hfs := h.nilOf hn0
    rw [hfs] at h ⊢
    subst hn0
    have HH := hide h
    clear hfs h hk1
    go_enter Tryz.func32, Tryz.ntmps32
    go_wp2
    go_loop [1, 5] (fun q i => i = .int .i64 0 ∧ q = .int .i64 k0) (fun _ _ => 0)
    case atStart => exact ⟨rfl, rfl⟩
    case round =>
      obtain ⟨rfl, rfl⟩ := hrel
      go_wp2
      go_ret
      exact ⟨rI (by simp [mkN]), HH.out, Only.refl _ _⟩
  obtain ⟨b, rfl⟩ := h.addr (by omega)
  have hl := hide (show ds.length = n from h.rl.row opF_len (by omega))
  obtain ⟨fs, hfs⟩ : ∃ fs, fs = ds.flatMap opF := ⟨_, rfl⟩
  have hfl := hide (show fs.length = n * 4 from by rw [hfs, flat_len opF 4 opF_len, hl.out])
  have HG := hide (show ∀ j d, ds[j]? = some d → ∀ i f, i < 4 → (opF d)[i]? = some f → fs[j * 4 + i]? = some f from fun j d hd i f hi hf => by rw [hfs, flat_get opF 4 opF_len ds j i d hd hi]; exact hf)
  rw [← hfs] at h hk1 ⊢
  have HH := hide (MK.start (k0 := k0) h)
  have HK := hide hk1
  have HSM := hide hsm
  clear hfs h hk1 hsm
  go_enter Tryz.func32, Tryz.ntmps32
  go_wp2
  go_loopw [1, 5] (fun q i wr => ∃ j : Nat, j ≤ n ∧ i = .int .i64 (j : Int) ∧ ∃ z : Int, q = .int .i64 z ∧ MK 3 70 4 k0 fs w lo hi b n c (j * 4) z wr)
    (fun _ i _ => n - (intOf i).toNat)
  case atStart => exact ⟨0, Nat.zero_le _, rfl, k0, rfl, by rw [Nat.zero_mul]; exact HH.out⟩
  case round =>
    obtain ⟨j, hj, rfl, z, rfl, hmk⟩ := hrel
    by_cases hlt : j < n
    · obtain ⟨d, hd⟩ : ∃ d, ds[j]? = some d := ⟨_, List.getElem?_eq_getElem (by rw [hl.out]; exact hlt)⟩
      have G0 : fs[j * 4]? = some (.n d.k) := HG.out j d hd 0 _ (by omega) rfl
      have G1 : fs[j * 4 + 1]? = some (.n d.i) := HG.out j d hd 1 _ (by omega) rfl
      have G2 : fs[j * 4 + 2]? = some (.n d.o) := HG.out j d hd 2 _ (by omega) rfl
      have G3 : fs[j * 4 + 3]? = some (.s d.p) := HG.out j d hd 3 _ (by omega) rfl
      have hz := hmk.bound HK.out
      obtain ⟨u0, c0, f0, _⟩ := hmk.cell (Nat.le_refl _) G0
      have m1 := hmk.setn G0
      have hz1 := m1.bound HK.out
      obtain ⟨u1, c1, f1, _⟩ := m1.cell (Nat.le_refl _) G1
      have m2 := m1.setn G1
      have hz2 := m2.bound HK.out
      obtain ⟨u2, c2, f2, _⟩ := m2.cell (Nat.le_refl _) G2
      have m3 := m2.setn G2
      have hz3 := m3.bound HK.out
      obtain ⟨u3, c3, f3, hF⟩ := m3.cell (Nat.le_refl _) G3
      have hF : OwI _ lo hi u3 d.p := hF
      have HC := hide (laws_markIntS (z + 1 + 1 + 1) _ hF (HSM.out j d hd) (by omega) (by omega))
      have HM := hide (fun w' hm ho => m3.row (w' := w') G3 c3 hF hm ho)
      clear hmk hF hd m1 m2 m3 G0 G1 G2 G3
      go_wp2_with fail
      refine HC.out.mono ?_
      rintro e w1 ⟨rfl, hm, ho⟩
      have H1 := hide (HM.out w1 hm ho)
      clear hm ho HM HC
      go_wp2_with fail
      go_roundw
      case rel => exact ⟨j + 1, by omega, by go_num, _, rfl, by rw [Nat.succ_mul]; exact H1.out⟩
      case measure => simp [intOf]; omega
    · have HD := hide (hmk.done (by rw [hfl.out]; omega))
      clear hmk
      go_wp2_with fail
      go_ret
      exact ⟨rI HD.out.1, HD.out.2⟩
theorem laws_markModel {lo hi n c : Nat} {A : Option Addr} {ds : List OpD} (k0 : Int) (w : World) (h : OwOps w lo hi (.slice A n c) n (ds.flatMap opF)) (hn : n ≤ 1048576) (hsm : SmO ds) (hk0 : 0 ≤ k0) (hk1 : k0 + (mkN (ds.flatMap opF) : Int) ≤ 1000000000000) :
    Calls Tryz.prog 13 #[Modv A n c, .int .i64 k0] w fun e w' => e = .returned (.int .i64 (k0 + (mkN (ds.flatMap opF) : Int))) ∧ OwOps w' lo hi (.slice A n c) n (mkF k0 (ds.flatMap opF)) ∧ Only (fun b => lo ≤ b ∧ b < hi) w w' := by
  have hb : Below w.heap.size w (w.alloc (.cells #[.slice A n c] 34)) := (Below.refl _ _).alloc (Nat.le_refl _) _
  have HM := hide (laws_markOpS k0 (w.alloc (.cells #[.slice A n c] 34)) (h.below hb) hn hsm hk0 hk1)
  have HB := hide hb
  obtain ⟨q, hq⟩ : ∃ q : Int, k0 + (mkN (ds.flatMap opF) : Int) = q := ⟨_, rfl⟩
  rw [hq] at HM ⊢
  clear h hb hn hk0 hk1 hsm hq
  go_enter Tryz.func13, Tryz.ntmps13
  go_wp2_with fail
  refine HM.out.mono ?_
  rintro e w2 ⟨rfl, ho, hm⟩
  have HO := hide ho
  have H2 := hide hm
  clear ho hm
  go_wp2_with fail
  go_ret
  exact ⟨rfl, HO.out, (Only.of_below HB.out).trans H2.out⟩
end Go.Proofs.YtehfglfbnjdcoaaGreat
