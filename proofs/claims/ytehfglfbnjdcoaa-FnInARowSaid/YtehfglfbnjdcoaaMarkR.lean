/-
  The laws' own functions that mark, and look for marks, over []Row.
-/
import Derived.Test.YtehfglfbnjdcoaaProg
import Derived.Test.YtehfglfbnjdcoaaRowS
import Derived.Test.YtehfglfbnjdcoaaMk
import Derived.WalkKit
namespace Go.Proofs.Ytehfglfbnjdcoaa
open Go.RowKit
set_option maxRecDepth 100000

theorem laws_markRowS {lo hi n c : Nat} {A : Option Addr} {ds : List (List Int)} (k0 : Int) (w : World) (h : OwRows w lo hi (.slice A n c) n (ds.flatMap rowF)) (hn : n ≤ 1048576) (hsm : SmR ds) (hk0 : 0 ≤ k0) (hk1 : k0 + (mkN (ds.flatMap rowF) : Int) ≤ 1000000000000) :
    Calls Try.prog 42 #[.slice A n c, .int .i64 k0] w fun e w' => e = .returned (.int .i64 (k0 + (mkN (ds.flatMap rowF) : Int))) ∧ OwRows w' lo hi (.slice A n c) n (mkF k0 (ds.flatMap rowF)) ∧ Only (fun b => lo ≤ b ∧ b < hi) w w' := by
  by_cases hn0 : n = 0
  · have hfs := h.nilOf hn0
    rw [hfs] at h ⊢
    subst hn0
    have HH := hide h
    clear hfs h hk1
    go_enter Try.func42, Try.ntmps42
    go_wp2
    go_loop [1, 5] (fun q i => i = .int .i64 0 ∧ q = .int .i64 k0) (fun _ _ => 0)
    case atStart => exact ⟨rfl, rfl⟩
    case round =>
      obtain ⟨rfl, rfl⟩ := hrel
      go_wp2
      go_ret
      exact ⟨rI (by simp [mkN]), HH.out, Only.refl _ _⟩
  obtain ⟨b, rfl⟩ := h.addr (by omega)
  have hl := hide (show ds.length = n from h.rl.row rowF_len (by omega))
  obtain ⟨fs, hfs⟩ : ∃ fs, fs = ds.flatMap rowF := ⟨_, rfl⟩
  have hfl := hide (show fs.length = n from by rw [hfs, flat_len rowF 1 rowF_len, hl.out, Nat.mul_one])
  have HG := hide (show ∀ j d, ds[j]? = some d → fs[j]? = some (Fl.s d) from fun j d hd => by have := flat_get rowF 1 rowF_len ds j 0 d hd (by omega); rw [Nat.mul_one, Nat.add_zero] at this; rw [hfs, this]; rfl)
  rw [← hfs] at h hk1 ⊢
  have HH := hide (MK.start (k0 := k0) h)
  have HK := hide hk1
  have HSM := hide hsm
  clear hfs h hk1 hsm
  go_enter Try.func42, Try.ntmps42
  go_wp2
  go_loopw [1, 5] (fun q i wr => ∃ j : Nat, j ≤ n ∧ i = .int .i64 (j : Int) ∧ ∃ z : Int, q = .int .i64 z ∧ MK 3 90 1 k0 fs w lo hi b n c j z wr)
    (fun _ i _ => n - (intOf i).toNat)
  case atStart => exact ⟨0, Nat.zero_le _, rfl, k0, rfl, HH.out⟩
  case round =>
    obtain ⟨j, hj, rfl, z, rfl, hmk⟩ := hrel
    have hz := hmk.bound HK.out
    by_cases hlt : j < n
    · obtain ⟨d, hd⟩ : ∃ d, ds[j]? = some d := ⟨_, List.getElem?_eq_getElem (by rw [hl.out]; exact hlt)⟩
      obtain ⟨u, hu, hfz, hF⟩ := hmk.cell (Nat.le_refl _) (HG.out j d hd)
      have hF : OwI wr lo hi u d := hF
      have HC := hide (laws_markIntS z wr hF (HSM.out j d hd) (by omega) (by omega))
      have HM := hide (fun w' hm ho => hmk.row (w' := w') (HG.out j d hd) hu hF hm ho)
      clear hmk hF hd
      go_wp2_with fail
      refine HC.out.mono ?_
      rintro e w1 ⟨rfl, hm, ho⟩
      have H1 := hide (HM.out w1 hm ho)
      clear hm ho HM HC
      go_wp2_with fail
      go_roundw
      case rel => exact ⟨j + 1, by omega, by go_num, _, rfl, H1.out⟩
      case measure => simp [intOf]; omega
    · have HD := hide (hmk.done (by rw [hfl.out]; omega))
      clear hmk
      go_wp2_with fail
      go_ret
      exact ⟨rI HD.out.1, HD.out.2⟩
theorem laws_heldRowS {lo hi n c : Nat} {A : Option Addr} {ds : List (List Int)} (k0 : Int) (w : World) (h : OwRows w lo hi (.slice A n c) n (mkF k0 (ds.flatMap rowF))) (hn : n ≤ 1048576) (hsm : SmR ds) (hk0 : 0 ≤ k0) (hk1 : k0 + (mkN (ds.flatMap rowF) : Int) ≤ 1000000000000) :
    Calls Try.prog 43 #[.slice A n c, .int .i64 k0] w fun e w' => e = .returned (.int .i64 (k0 + (mkN (ds.flatMap rowF) : Int))) ∧ Below w.heap.size w w' := by
  obtain ⟨fs, hfs⟩ : ∃ fs, fs = ds.flatMap rowF := ⟨_, rfl⟩
  have hl := hide (show ds.length = n from by have := h.rl.1; rw [mkF_len, flat_len rowF 1 rowF_len] at this; omega)
  have hfl := hide (show fs.length = n from by rw [hfs, flat_len rowF 1 rowF_len, hl.out, Nat.mul_one])
  have HG := hide (show ∀ j d, ds[j]? = some d → fs[j]? = some (Fl.s d) from fun j d hd => by have := flat_get rowF 1 rowF_len ds j 0 d hd (by omega); rw [Nat.mul_one, Nat.add_zero] at this; rw [hfs, this]; rfl)
  rw [← hfs] at h hk1 ⊢
  have HH := hide h
  have HK := hide hk1
  have HSM := hide hsm
  clear hfs h hk1 hsm
  go_enter Try.func43, Try.ntmps43
  go_wp2
  go_loop [1, 5] (fun q i => ∃ j : Nat, j ≤ n ∧ i = .int .i64 (j : Int) ∧ ∃ z : Int, q = .int .i64 z ∧ Hid (z = k0 + (mkN (fs.take j) : Int)))
    (fun _ i => n - (intOf i).toNat)
  case atStart => exact ⟨0, Nat.zero_le _, rfl, k0, rfl, hide (by simp [mkN])⟩
  case round =>
    obtain ⟨j, hj, rfl, z, rfl, hz⟩ := hrel
    have hb : k0 ≤ z ∧ z ≤ 1000000000000 := by have := HK.out; have := hz.out; have := mkN_le fs j; omega
    by_cases hlt : j < n
    · obtain ⟨d, hd⟩ : ∃ d, ds[j]? = some d := ⟨_, List.getElem?_eq_getElem (by rw [hl.out]; exact hlt)⟩
      obtain ⟨b, c', u, hv, _, _, _, hu, _, hF⟩ := HH.out.cellAt (mk_at (HG.out j d hd) hz.out)
      have hF : OwI w lo hi u (marks z d.length) := hF
      obtain ⟨A1, c1, rfl⟩ := ownsRow_form (show w.ownsRow lo _ 1 u _ (ivs (marks z d.length)) from hF.1)
      have hA : A = some ⟨b, 0, none⟩ := by simp only [Value.slice.injEq] at hv; exact hv.1
      subst hA
      have HC := hide (heldI z w hF (HSM.out j d hd) (by omega) (by omega))
      obtain ⟨z', hz'⟩ : ∃ z' : Int, z + (d.length : Int) = z' := ⟨_, rfl⟩
      have HN := hide (show z' = k0 + (mkN (fs.take (j + 1)) : Int) from hz' ▸ mk_next (HG.out j d hd) hz.out)
      rw [hz'] at HC
      have hz0 : 0 ≤ z' := by omega
      clear hF hd hv hz'
      go_wp2_with fail
      refine HC.out.mono ?_
      rintro e w1 ⟨rfl, rfl⟩
      clear HC
      go_wp2_with fail
      go_round
      case rel => exact ⟨j + 1, by omega, by go_num, _, rfl, HN.out⟩
      case measure => simp [intOf]; omega
    · have hkn : fs.length ≤ j := by rw [hfl.out]; omega
      go_wp2_with fail
      go_ret
      exact ⟨rI (by rw [hz.out, List.take_of_length_le hkn]), Below.refl _ _⟩
end Go.Proofs.Ytehfglfbnjdcoaa
