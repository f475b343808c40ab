/-
  PROVED HERE: the law 'laws.FnFixTexts' returns true and leaves its arguments as they were, where the listed variables hold what the program lays; and the tied card.
-/
import Derived.Test.YtgfieeonlhcnhaaDoorRows
import Derived.Test.YtgfieeonlhcnhaaDoorCards
import Derived.Test.YtgfieeonlhcnhaaDoorTie
import Derived.Test.YtgfieeonlhcnhaaDoorDoor
import Derived.Test.YtgfieeonlhcnhaaDoorOpenB
import Derived.Test.YtgfieeonlhcnhaaDoorDetD
import Derived.Test.YtgfieeonlhcnhaaDoorFixI
import Derived.Test.YtgfieeonlhcnhaaDoorPlainK
import Derived.WalkKit
import Derived.Deep.RegionHeld3
import Derived.ProofKit
import Derived.OpenShut
import Derived.SevenTiedAt
namespace Go.Proofs.YtgfieeonlhcnhaaDoor.fnFixTexts
open Go Go.ChangeShapes Go.WideShapes Go.ChangeAt Go.RowKit
open Go.ChangeMaps (open_string)
set_option maxRecDepth 100000
set_option linter.unusedVariables false
theorem cells_u8 : Tryd.prog.cellsOf 5 = 1 := by kernel_rfl
theorem showS_back {n : Int} (h0 : -2147483647 ≤ n) (h1 : n ≤ 2147483647) : rfixV (showS n).data.toList = .tuple #[.int .i64 n, .bool true] := by
  rw [showS_ok h0 h1]
  exact rfixV_some (rfix_show h0 h1)
theorem showS_ne {n : Int} (h0 : -2147483647 ≤ n) (h1 : n ≤ 2147483647) : 0 < (showS n).size := by
  rw [showS_ok h0 h1]
  show 0 < (showL n).toArray.size
  rw [List.size_toArray]
  exact List.length_pos_iff.2 (showL_ne n)
theorem bne_empty {s : ByteArray} (h : 0 < s.size) : ¬ s.toList = [] ∧ s.toList.isEmpty = false := by
  have hl : s.toList.length = s.size := by rw [Go.ByteArray.toList_eq, Array.length_toList]; rfl
  cases h' : s.toList with
  | nil => rw [h', List.length_nil] at hl; omega
  | cons a l => exact ⟨by simp, rfl⟩
theorem fix_some_show {s : ByteArray} {k : Int} (h : rfix s.data.toList = some k) : showS k = s ∧ -2147483647 ≤ k ∧ k ≤ 2147483647 := by
  obtain ⟨h1, h2, h3⟩ := rfix_some h
  exact ⟨(show_eq h2 h3).2 h1, h2, h3⟩
/-- what the first text answers -/
structure First (n : Int) (s : ByteArray) (m : Int) (b : Bool) : Prop where
  show_ : ∀ w, Tab w → Calls Tryd.prog 11 #[.int .i64 n] w fun e w' => e = .returned (.string s) ∧ Below w.heap.size w w'
  read : ∀ w, Tab w → Errs w → Calls Tryd.prog 12 #[.string s] w fun e w' => e = .returned (.tuple #[.int .i64 m, .bool b]) ∧ Below w.heap.size w w'
theorem first_yes {n : Int} (h0 : -2147483647 ≤ n) (h1 : n ≤ 2147483647) : First n (showS n) n true :=
  ⟨fun w hT => impl_ShowFix n (by omega) (by omega) w hT, fun w hT hE => by
    have := impl_ReadFix (showS n) (by have := showS_small n; omega) w hT hE
    rwa [showS_back h0 h1] at this⟩
theorem first_no {n : Int} (g0 : -9223372036854775808 ≤ n) (g1 : n ≤ 9223372036854775807) (h : ¬ (-2147483647 ≤ n ∧ n ≤ 2147483647)) : First n ByteArray.empty 0 false :=
  ⟨fun w hT => by
    have := impl_ShowFix n g0 g1 w hT
    rwa [showS_no h] at this, fun w hT hE => by
    have := impl_ReadFix ByteArray.empty (by decide) w hT hE
    rwa [show rfixV ByteArray.empty.data.toList = .tuple #[.int .i64 0, .bool false] from rfixV_none (rfix_a rdec_nil)] at this⟩
theorem walk (w : World) {A0 : Option Addr} {n0 c0 : Nat} (hC0 : (n0 : Int) ≤ 1048576 → BA w w.heap.size A0 n0 c0) (hT : Tab w) (hE : Errs w) : Calls Tryd.prog 3 #[.slice A0 n0 c0] w fun e w' => e = .returned (.bool true) ∧ Below w.heap.size w w' := by
  by_cases hL : (1048576 : Int) < (n0 : Int)
  · go_enter Tryd.func3, Tryd.ntmps3
    go_wp2_with fail
    refine (laws_big_yes _ _ _ w hL).mono ?_
    rintro e w' ⟨rfl, rfl⟩
    go_wp2_with fail
    go_ret
    exact ⟨rfl, Below.refl _ _⟩
  have hb0 := hide (hC0 (by omega))
  have HL := hide (show (n0 : Int) ≤ 1048576 by omega)
  clear hC0 hL
  go_enter Tryd.func3, Tryd.ntmps3
  go_wp2_with fail
  refine (laws_big_no _ _ _ w HL.out).mono ?_
  rintro e w' ⟨rfl, rfl⟩
  go_wp2_with fail
  refine (draw_ShowFix w hb0.out (Nat.le_refl _)).mono ?_
  rintro e w1 ⟨n, rfl, hn0, hn1, hb1⟩
  have HT := hide hT
  have HE := hide hE
  have HB1 := hide hb1
  have HC1 := hide (hb0.out.below (hb1.mono (Nat.le_refl _)))
  have HS1 := hide hb1.size
  clear hb0 hT hE hb1
  by_cases hn : -2147483647 ≤ n ∧ n ≤ 2147483647
  · have HF := hide (first_yes hn.1 hn.2)
    have HN := hide (bne_empty (showS_ne hn.1 hn.2))
    have HO := hide (fun w => spec_FixOk n w)
    rw [fxOk_yes hn.1 hn.2] at HO
    obtain ⟨s, hs⟩ : ∃ s, showS n = s := ⟨_, rfl⟩
    rw [hs] at HF HN
    clear hs hn hn0 hn1
    go_wp2_with fail
    refine (HF.out.show_ w1 (HT.out.below HB1.out)).mono ?_
    rintro e w2 ⟨rfl, hb2⟩
    have HB2 := hide (HB1.out.trans (hb2.mono HS1.out))
    have HC2 := hide (HC1.out.below (hb2.mono HS1.out))
    clear hb2 HB1 HC1 HS1
    go_wp2_with fail
    refine (HF.out.read w2 (HT.out.below HB2.out) (HE.out.below HB2.out)).mono ?_
    rintro e w3 ⟨rfl, hb3⟩
    have HB3 := hide (HB2.out.trans (hb3.mono HB2.out.size))
    have HC3 := hide (HC2.out.below (hb3.mono HB2.out.size))
    clear hb3 HB2 HC2 HF
    go_wp2_with fail
    refine (draw_ReadFix w3 HC3.out HB3.out.size).mono ?_
    rintro e w4 ⟨t, rfl, ht, hb4⟩
    have HB4 := hide (HB3.out.trans (hb4.mono HB3.out.size))
    clear hb4 HB3 HC3
    have HR := hide (impl_ReadFix t (by omega) w4 (HT.out.below HB4.out) (HE.out.below HB4.out))
    cases hr : rfix t.data.toList with
    | none =>
      rw [rfixV_none hr] at HR
      clear hr ht
      go_wp2_with fail
      refine HR.out.mono ?_
      rintro e w5 ⟨rfl, hb5⟩
      have HB5 := hide (HB4.out.trans (hb5.mono HB4.out.size))
      clear hb5 HB4 HR
      obtain ⟨hne, hne2⟩ := HN.out
      go_wp2_with fail
      refine (HO.out w5).mono ?_
      rintro e w6 ⟨rfl, rfl⟩
      clear HO
      go_wp2_with fail
      go_ret
      exact ⟨rfl, HB5.out⟩
    | some k =>
      obtain ⟨hk, hk0, hk1⟩ := fix_some_show hr
      rw [rfixV_some hr] at HR
      have HK := hide (fun (w : World) (hT : Tab w) => impl_ShowFix k (by omega) (by omega) w hT)
      rw [hk] at HK
      clear hr ht hk hk0 hk1
      go_wp2_with fail
      refine HR.out.mono ?_
      rintro e w5 ⟨rfl, hb5⟩
      have HB5 := hide (HB4.out.trans (hb5.mono HB4.out.size))
      clear hb5 HB4 HR
      obtain ⟨hne, hne2⟩ := HN.out
      go_wp2_with fail
      refine (HO.out w5).mono ?_
      rintro e w6 ⟨rfl, rfl⟩
      clear HO
      go_wp2_with fail
      refine (HK.out w5 (HT.out.below HB5.out)).mono ?_
      rintro e w6 ⟨rfl, hb6⟩
      have HB6 := hide (HB5.out.trans (hb6.mono HB5.out.size))
      clear hb6 HB5 HK
      go_wp2_with fail
      go_ret
      exact ⟨rfl, HB6.out⟩
  · have HF := hide (first_no (by omega) (by omega) hn)
    have HO := hide (fun w => spec_FixOk n w)
    rw [fxOk_no hn] at HO
    clear hn hn0 hn1
    go_wp2_with fail
    refine (HF.out.show_ w1 (HT.out.below HB1.out)).mono ?_
    rintro e w2 ⟨rfl, hb2⟩
    have HB2 := hide (HB1.out.trans (hb2.mono HS1.out))
    have HC2 := hide (HC1.out.below (hb2.mono HS1.out))
    clear hb2 HB1 HC1 HS1
    go_wp2_with fail
    refine (HF.out.read w2 (HT.out.below HB2.out) (HE.out.below HB2.out)).mono ?_
    rintro e w3 ⟨rfl, hb3⟩
    have HB3 := hide (HB2.out.trans (hb3.mono HB2.out.size))
    have HC3 := hide (HC2.out.below (hb3.mono HB2.out.size))
    clear hb3 HB2 HC2 HF
    go_wp2_with fail
    refine (draw_ReadFix w3 HC3.out HB3.out.size).mono ?_
    rintro e w4 ⟨t, rfl, ht, hb4⟩
    have HB4 := hide (HB3.out.trans (hb4.mono HB3.out.size))
    clear hb4 HB3 HC3
    have HR := hide (impl_ReadFix t (by omega) w4 (HT.out.below HB4.out) (HE.out.below HB4.out))
    cases hr : rfix t.data.toList with
    | none =>
      rw [rfixV_none hr] at HR
      clear hr ht
      go_wp2_with fail
      refine HR.out.mono ?_
      rintro e w5 ⟨rfl, hb5⟩
      have HB5 := hide (HB4.out.trans (hb5.mono HB4.out.size))
      clear hb5 HB4 HR
      go_wp2_with fail
      refine (HO.out w5).mono ?_
      rintro e w6 ⟨rfl, rfl⟩
      clear HO
      go_wp2_with fail
      go_ret
      exact ⟨rfl, HB5.out⟩
    | some k =>
      obtain ⟨hk, hk0, hk1⟩ := fix_some_show hr
      rw [rfixV_some hr] at HR
      have HK := hide (fun (w : World) (hT : Tab w) => impl_ShowFix k (by omega) (by omega) w hT)
      rw [hk] at HK
      clear hr ht hk hk0 hk1
      go_wp2_with fail
      refine HR.out.mono ?_
      rintro e w5 ⟨rfl, hb5⟩
      have HB5 := hide (HB4.out.trans (hb5.mono HB4.out.size))
      clear hb5 HB4 HR
      go_wp2_with fail
      refine (HO.out w5).mono ?_
      rintro e w6 ⟨rfl, rfl⟩
      clear HO
      go_wp2_with fail
      refine (HK.out w5 (HT.out.below HB5.out)).mono ?_
      rintro e w6 ⟨rfl, hb6⟩
      have HB6 := hide (HB5.out.trans (hb6.mono HB5.out.size))
      clear hb6 HB5 HK
      go_wp2_with fail
      go_ret
      exact ⟨rfl, HB6.out⟩
set_option maxRecDepth 100000 in
theorem lifted (os : Os) (started : os.Started) (H : Type) (enc : TypeId × Value → H) :
    ReturnsInHanded {} Tryd.checked os 3 .any (fun w args => (Rows.fnFixTextsSpec.pre enc Tryd.prog Tryd.f3 [] false w args ∧ laidMetH Tryd.prog laid5 w) ∧ sizedMet enc Tryd.prog Tryd.f3 (OpenSpec.ofChange Rows.fnFixTextsSpec) false w args) (Rows.fnFixTextsSpec.post enc Tryd.prog Tryd.f3 false true false false) := by
  refine law_liftedD (C := Tryd.checked) (f := 3) (fn := Tryd.f3) (tb := 4) laid5 os (by kernel_rfl) started (by kernel_rfl) Tryd.func3 (by kernel_rfl) (by kernel_rfl) rfl Tryd.underlying4 rfl (fun H ds h => ?_) H enc
    (ChangeSpec.witness_shaped (enc := enc) (C := Tryd.checked) (os := os) (X := fun w _ => laidMetH Tryd.prog laid5 w) false (World.doorLaid Tryd.prog 400 os) #[.slice none 0 0] 8 rfl (shaped os _) (by kernel_rfl) (by kernel_rfl) (by kernel_rfl) (met5 os _)) ?_
  · rw [show Tryd.f3.params.size = 1 from by kernel_rfl] at h
    match ds, h with
    | [d0], _ => rfl
  intro W base args ds ps hval hA hlt hL
  have hval : ∀ (j : Nat) t v, Tryd.f3.params[j]? = some t → args[j]? = some v → Value.okWide Tryd.prog W .any base t v := hval
  have hA : DataW.TrodAll enc Tryd.prog W 0 (fun _ => true) true Tryd.f3.params.toList args.toList ds ps := hA
  rw [Tryd.params3] at hA hval
  obtain ⟨v0, vs0, d0, ds0, p0, q0, hargs, rfl, rfl, h0, r0⟩ := trodAll_cons hA
  obtain ⟨rfl, rfl, rfl⟩ := trodAll_nil r0
  obtain rfl : args = #[v0] := by cases args; simp_all
  obtain ⟨A0, n0, c0, rfl, hC0⟩ := openB Tryd.underlying22 Tryd.underlying5 cells_u8 (hval 0 22 v0 rfl rfl) h0 (fun x hx => hlt x (by simp [hx]))
  obtain ⟨hT, hE⟩ := of5 hL
  exact walk W hC0 hT hE
theorem row : Rows.FnFixTextsSaid :=
  OpenClaim.holds_of_wide 3 Tryd.f3 rfl rfl rfl rfl rfl rfl rfl ⟨rfl, rfl, rfl, rfl, rfl⟩ rfl rfl rfl rfl rfl (by kernel_rfl) Tryd.func3 (by kernel_rfl)
    (of_decide_eq_true (by kernel_rfl)) (by unfold Func.isWrapper; first | (rw [if_pos (by decide +kernel)]; kernel_rfl) | (rw [if_neg (by decide +kernel)]; exact ⟨rfl, rfl⟩))
    (fun os started H enc _ => lifted os started H enc)
theorem proved : Rows.FnFixTextsCardSaid :=
  Claim7.holds_tied_plain_at .later [] [.data, .data, .data, .sentinel, .sentinel] true (true, "0b9631ded2428b8eea604e724161e2b49231ce82670f86e4ba093ddb88f05c4a") true
    row (fun _ h => by cases h) (by kernel_rfl) (fun _ h => by cases h) fnFixTexts_row_tie rfl ⟨rfl, rfl⟩ (by kernel_rfl) rfl
    (fun f fn hf hfn => by
      obtain rfl : f = 3 := Option.some.inj ((show Tryd.prog.funcNamed "loop.example/g01407/laws.FnFixTexts" = some 3 by kernel_rfl).symm.trans hf) |>.symm
      obtain rfl : fn = Tryd.f3 := (Option.some.inj (Tryd.func3.symm.trans hfn)).symm
      exact ⟨by kernel_rfl, fun j t ht => by
        rw [Tryd.params3] at ht
        have hm : t ∈ [22] := by simpa using Array.mem_of_getElem? ht
        have hall : ([22].all fun u => !Tryd.prog.wantsStandIn u) = true := by kernel_rfl
        exact (show Tryd.prog.wantsStandIn t = false by simpa using List.all_eq_true.1 hall t hm)⟩)
    (by kernel_rfl)
#print axioms proved
end Go.Proofs.YtgfieeonlhcnhaaDoor.fnFixTexts
