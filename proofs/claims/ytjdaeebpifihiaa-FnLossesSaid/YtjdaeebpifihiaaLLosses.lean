/-
  PROVED HERE: the law 'laws.FnLosses' returns true and leaves its arguments as they were, for every input, without a condition.
-/
import Derived.Test.YtjdaeebpifihiaaRows
import Derived.Test.YtjdaeebpifihiaaFrame
import Derived.Test.YtjdaeebpifihiaaOpenB
import Derived.Test.YtjdaeebpifihiaaLoss
import Derived.WalkKit
import Derived.ProofKit
import Derived.OpenShut
namespace Go.Proofs.Ytjdaeebpifihiaa.fnLosses
open Go.ChangeShapes Go.WideShapes Go.ChangeAt Go.RowKit
open Go.ChangeMaps (open_string)
set_option linter.unusedVariables false
theorem cells_u8 : Try.prog.cellsOf 5 = 1 := by kernel_rfl
theorem vSub_self (xs : List Int) : vSub xs xs = [] ∨ ∃ k, 1 ≤ k ∧ k ≤ 6 ∧ vSub xs xs = List.replicate k 0 := by
  rw [vSub]; split
  · rename_i h
    have := pairV_len h
    refine .inr ⟨xs.length, this.1, this.2.1, ?_⟩
    clear h this
    induction xs with
    | nil => rfl
    | cons x xs ih => rw [List.zipWith_cons_cons, ih, List.length_cons, List.replicate_succ, show fxSub x x = 0 from by rw [fxSub, Int.sub_self]; decide]
  · exact .inl rfl
theorem vSubS_self (xs : List Int) : vSubS xs xs = false := by
  have h : anyZ fxSubS xs xs = false := by
    rw [anyZ]
    induction xs with
    | nil => rfl
    | cons x xs ih => rw [List.zipWith_cons_cons, List.any_cons, ih, show fxSubS x x = false from by rw [fxSubS, Int.sub_self]; decide]; rfl
  rw [vSubS, h, Bool.and_false]
theorem dot0 : ∀ k, dotGo 0 false (List.replicate k 0) (List.replicate k 0) = (0, false)
  | 0 => rfl
  | k + 1 => by rw [List.replicate_succ, dotGo, show fxAdd 0 (fxMul 0 0) = 0 from by decide, show (false || fxMulS 0 0 || fxAddS 0 (fxMul 0 0)) = false from by decide]; exact dot0 k
theorem loss_self (xs : List Int) : lossV xs xs = 0 ∧ lossS xs xs = false := by
  rw [lossV, lossS, vSubS_self]
  rcases vSub_self xs with h | ⟨k, _, _, h⟩
  · rw [h]; exact ⟨by decide, by decide⟩
  · rw [h, vDot, vDotS, dot0]; simp
theorem loss_pos (xs ys : List Int) : 0 ≤ lossV xs ys := Int.ediv_nonneg (vDot_sq _) (by omega)
set_option maxHeartbeats 4000000 in
set_option maxRecDepth 100000 in
theorem walk (w : World) {A0 : Option Addr} {n0 c0 : Nat} (hC0 : (n0 : Int) ≤ 1048576 → BA w w.heap.size A0 n0 c0) : Calls Try.prog 4 #[.slice A0 n0 c0] w fun e w' => e = .returned (.bool true) ∧ Below w.heap.size w w' := by
  by_cases hL : (1048576 : Int) < (n0 : Int)
  · go_enter Try.func4, Try.ntmps4
    go_wp2_with fail
    refine (laws_big_yes _ _ _ w hL).mono ?_
    rintro e w' ⟨rfl, rfl⟩
    go_wp2_with fail
    go_ret
    exact ⟨rfl, Below.refl _ _⟩
  have hb0 := hide (hC0 (by omega))
  have HL := hide (show (n0 : Int) ≤ 1048576 by omega)
  clear hC0 hL
  go_enter Try.func4, Try.ntmps4
  go_wp2_with fail
  refine (laws_big_no _ _ _ w HL.out).mono ?_
  rintro e w' ⟨rfl, rfl⟩
  go_wp2_with fail
  refine (spec_DrawLossOf w hb0.out (Nat.le_refl _)).mono ?_
  rintro e w1 ⟨v, u, xs, ys, rfl, hl0, hl1, hxs, hys, ⟨A1, n1, c1, rfl, hR1⟩, ⟨A2, n2, c2, rfl, hR2⟩, hb1⟩
  clear hxs hys
  have hm1 : n1 ≤ 7 := by rw [← hR1.1]; exact hl0
  have hm2 : n2 ≤ 7 := by rw [← hR2.1]; exact hl1
  have hs1 := hb1.size
  clear hl0 hl1
  obtain ⟨p, hp⟩ : ∃ p, lossV xs ys = p := ⟨_, rfl⟩
  obtain ⟨s, hs⟩ : ∃ s, lossS xs ys = s := ⟨_, rfl⟩
  have hp0 : 0 ≤ p := hp ▸ loss_pos xs ys
  go_wp2_with fail
  have h1 := impl_LossOf w1 hR1 hR2 (Nat.le_refl _) (Nat.le_refl _) (by omega) (by omega)
  rw [hp, hs] at h1
  refine h1.mono ?_
  clear h1
  rintro e w2 ⟨rfl, hb2⟩
  have hs2 := hb2.size
  go_wp2_with fail
  have h1 := impl_LossOf w2 (hR1.below hb2) (hR1.below hb2) hs2 hs2 (by omega) (by omega)
  rw [(loss_self xs).1, (loss_self xs).2] at h1
  refine h1.mono ?_
  clear h1
  rintro e w3 ⟨rfl, hb3⟩
  have hb3' := hb2.trans (hb3.mono hs2)
  have hs3 := hb3'.size
  go_wp2_with fail
  have h1 := spec_LossOf w3 (hR1.below hb3') (hR2.below hb3') hs3 hs3 (by omega) (by omega)
  rw [hp, hs] at h1
  refine h1.mono ?_
  clear h1
  rintro e w4 ⟨rfl, hb4⟩
  clear hp hs
  go_wp2_with fail
  go_ret
  exact ⟨rfl, hb1.trans ((hb3'.trans (hb4.mono hs3)).mono hs1)⟩
set_option maxRecDepth 100000 in
theorem lifted (os : Os) (started : os.Started) (H : Type) (enc : TypeId × Value → H) :
    ReturnsInHanded {} Try.checked os 4 .any (Rows.fnLossesSpec.pre6 enc Try.prog Try.f4 Rows.fnLossesRow.domain false) (Rows.fnLossesSpec.post enc Try.prog Try.f4 false true false false) := by
  refine law_lifted (C := Try.checked) (f := 4) (fn := Try.f4) (tb := 4) os (by kernel_rfl) started (by kernel_rfl) Try.func4 (by kernel_rfl) (by kernel_rfl) rfl Try.underlying4 rfl (fun H ds h => ?_) H enc
    (ChangeSpec.witness6 (enc := enc) (C := Try.checked) false ⟨#[], #[.slice none 0 0], []⟩ 8 (by kernel_rfl) (by kernel_rfl) (by kernel_rfl) (by kernel_rfl)) ?_
  · rw [show Try.f4.params.size = 1 from by kernel_rfl] at h
    match ds, h with
    | [d0], _ => rfl
  intro W base args ds ps hval hA hlt
  have hval : ∀ (j : Nat) t v, Try.f4.params[j]? = some t → args[j]? = some v → Value.okWide Try.prog W .any base t v := hval
  have hA : DataW.TrodAll enc Try.prog W 0 (fun _ => true) true Try.f4.params.toList args.toList ds ps := hA
  rw [Try.params4] at hA hval
  obtain ⟨v0, vs0, d0, ds0, p0, q0, hargs, rfl, rfl, h0, r0⟩ := trodAll_cons hA
  obtain ⟨rfl, rfl, rfl⟩ := trodAll_nil r0
  obtain rfl : args = #[v0] := by cases args; simp_all
  obtain ⟨A0, n0, c0, rfl, hC0⟩ := openB Try.underlying22 Try.underlying5 cells_u8 (hval 0 22 v0 rfl rfl) h0 (fun x hx => hlt x (by simp [hx]))
  exact walk W hC0
theorem proved : Rows.FnLossesSaid :=
  OpenClaim.holds_of_wide 4 Try.f4 rfl rfl rfl rfl rfl rfl rfl ⟨rfl, rfl, rfl, rfl, rfl⟩ rfl rfl rfl rfl rfl (by kernel_rfl) Try.func4 (by kernel_rfl)
    (of_decide_eq_true (by kernel_rfl)) (by unfold Func.isWrapper; first | (rw [if_pos (by decide +kernel)]; kernel_rfl) | (rw [if_neg (by decide +kernel)]; exact ⟨rfl, rfl⟩))
    (fun os started H enc _ => lifted os started H enc)
#print axioms proved
end Go.Proofs.Ytjdaeebpifihiaa.fnLosses
