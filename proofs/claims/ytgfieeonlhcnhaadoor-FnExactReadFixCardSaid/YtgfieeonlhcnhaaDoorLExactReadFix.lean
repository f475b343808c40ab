/-
  PROVED HERE: the law 'laws.FnExactReadFix' returns true and leaves its arguments as they were, where the listed variables hold what the program lays; and the tied card.
-/
import Derived.Test.YtgfieeonlhcnhaaDoorRows
import Derived.Test.YtgfieeonlhcnhaaDoorCards
import Derived.Test.YtgfieeonlhcnhaaDoorTie
import Derived.Test.YtgfieeonlhcnhaaDoorDoor
import Derived.Test.YtgfieeonlhcnhaaDoorFixS
import Derived.Test.YtgfieeonlhcnhaaDoorFixI
import Derived.WalkKit
import Derived.Deep.RegionHeld3
import Derived.ProofKit
import Derived.OpenShut
import Derived.SevenTiedAt
namespace Go.Proofs.YtgfieeonlhcnhaaDoor.fnExactReadFix
open Go Go.ChangeShapes Go.WideShapes Go.ChangeAt Go.RowKit
open Go.ChangeMaps (open_string)
set_option maxRecDepth 100000
set_option linter.unusedVariables false
theorem walk (w : World) (s0 : ByteArray) (hs0 : s0.size ≤ maxLen) (hT : Tab w) (hE : Errs w) : Calls Tryd.prog 7 #[.string s0] w fun e w' => e = .returned (.bool true) ∧ Below w.heap.size w w' := by
  unfold maxLen at hs0
  by_cases hl : (1048576 : Int) < (s0.size : Int)
  · go_enter Tryd.func7, Tryd.ntmps7
    go_wp2_with fail
    go_ret
    exact ⟨rfl, Below.refl _ _⟩
  have S := fun w : World => spec_ReadFix s0 (by omega) w
  have I := fun (w : World) (hT : Tab w) (hE : Errs w) => impl_ReadFix s0 (by omega) w hT hE
  cases hr : rfix s0.data.toList with
  | none =>
    rw [rfixV_none hr] at S I
    clear hr
    replace S := hide S
    replace I := hide I
    go_enter Tryd.func7, Tryd.ntmps7
    go_wp2_with fail
    refine (S.out w).mono ?_
    rintro e w1 ⟨rfl, hb1⟩
    go_wp2_with fail
    refine (I.out w1 (hT.below hb1) (hE.below hb1)).mono ?_
    rintro e w2 ⟨rfl, hb2⟩
    go_wp2_with fail
    go_ret
    exact ⟨rfl, hb1.trans (hb2.mono hb1.size)⟩
  | some n =>
    rw [rfixV_some hr] at S I
    clear hr
    replace S := hide S
    replace I := hide I
    go_enter Tryd.func7, Tryd.ntmps7
    go_wp2_with fail
    refine (S.out w).mono ?_
    rintro e w1 ⟨rfl, hb1⟩
    go_wp2_with fail
    refine (I.out w1 (hT.below hb1) (hE.below hb1)).mono ?_
    rintro e w2 ⟨rfl, hb2⟩
    go_wp2_with fail
    go_ret
    exact ⟨rfl, hb1.trans (hb2.mono hb1.size)⟩
set_option maxRecDepth 100000 in
theorem lifted (os : Os) (started : os.Started) (H : Type) (enc : TypeId × Value → H) :
    ReturnsInHanded {} Tryd.checked os 7 .any (fun w args => (Rows.fnExactReadFixSpec.pre enc Tryd.prog Tryd.f7 [] false w args ∧ laidMetH Tryd.prog laid5 w) ∧ sizedMet enc Tryd.prog Tryd.f7 (OpenSpec.ofChange Rows.fnExactReadFixSpec) false w args) (Rows.fnExactReadFixSpec.post enc Tryd.prog Tryd.f7 false true false false) := by
  refine law_liftedD (C := Tryd.checked) (f := 7) (fn := Tryd.f7) (tb := 4) laid5 os (by kernel_rfl) started (by kernel_rfl) Tryd.func7 (by kernel_rfl) (by kernel_rfl) rfl Tryd.underlying4 rfl (fun H ds h => ?_) H enc
    (ChangeSpec.witness_shaped (enc := enc) (C := Tryd.checked) (os := os) (X := fun w _ => laidMetH Tryd.prog laid5 w) false (World.doorLaid Tryd.prog 400 os) #[.string ByteArray.empty] 8 rfl (shaped os _) (by kernel_rfl) (by kernel_rfl) (by kernel_rfl) (met5 os _)) ?_
  · rw [show Tryd.f7.params.size = 1 from by kernel_rfl] at h
    match ds, h with
    | [d0], _ => rfl
  intro W base args ds ps hval hA hlt hL
  have hval : ∀ (j : Nat) t v, Tryd.f7.params[j]? = some t → args[j]? = some v → Value.okWide Tryd.prog W .any base t v := hval
  have hA : DataW.TrodAll enc Tryd.prog W 0 (fun _ => true) true Tryd.f7.params.toList args.toList ds ps := hA
  rw [Tryd.params7] at hA hval
  obtain ⟨v0, vs0, d0, ds0, p0, q0, hargs, rfl, rfl, h0, r0⟩ := trodAll_cons hA
  obtain ⟨rfl, rfl, rfl⟩ := trodAll_nil r0
  obtain rfl : args = #[v0] := by cases args; simp_all
  obtain ⟨s0, rfl, rfl, rfl, hs0⟩ := open_string Tryd.underlying9 (hval 0 9 v0 rfl rfl) h0
  obtain ⟨hT, hE⟩ := of5 hL
  exact walk W s0 hs0 hT hE
theorem row : Rows.FnExactReadFixSaid :=
  OpenClaim.holds_of_wide 7 Tryd.f7 rfl rfl rfl rfl rfl rfl rfl ⟨rfl, rfl, rfl, rfl, rfl⟩ rfl rfl rfl rfl rfl (by kernel_rfl) Tryd.func7 (by kernel_rfl)
    (of_decide_eq_true (by kernel_rfl)) (by unfold Func.isWrapper; first | (rw [if_pos (by decide +kernel)]; kernel_rfl) | (rw [if_neg (by decide +kernel)]; exact ⟨rfl, rfl⟩))
    (fun os started H enc _ => lifted os started H enc)
theorem proved : Rows.FnExactReadFixCardSaid :=
  Claim7.holds_tied_plain_at .later [] [.data, .data, .data, .sentinel, .sentinel] true (true, "0b9631ded2428b8eea604e724161e2b49231ce82670f86e4ba093ddb88f05c4a") true
    row (fun _ h => by cases h) (by kernel_rfl) (fun _ h => by cases h) fnExactReadFix_row_tie rfl ⟨rfl, rfl⟩ (by kernel_rfl) rfl
    (fun f fn hf hfn => by
      obtain rfl : f = 7 := Option.some.inj ((show Tryd.prog.funcNamed "loop.example/g01407/laws.FnExactReadFix" = some 7 by kernel_rfl).symm.trans hf) |>.symm
      obtain rfl : fn = Tryd.f7 := (Option.some.inj (Tryd.func7.symm.trans hfn)).symm
      exact ⟨by kernel_rfl, fun j t ht => by
        rw [Tryd.params7] at ht
        have hm : t ∈ [9] := by simpa using Array.mem_of_getElem? ht
        have hall : ([9].all fun u => !Tryd.prog.wantsStandIn u) = true := by kernel_rfl
        exact (show Tryd.prog.wantsStandIn t = false by simpa using List.all_eq_true.1 hall t hm)⟩)
    (by kernel_rfl)
#print axioms proved
end Go.Proofs.YtgfieeonlhcnhaaDoor.fnExactReadFix
