/-
  PROVED HERE: the law 'laws.FnExactAllCuts' returns true and leaves its arguments as they were, for every input, without a condition.
-/
import Derived.Test.YtceeijbnhnpfgaaRows
import Derived.Test.YtceeijbnhnpfgaaFrame
import Derived.Test.YtceeijbnhnpfgaaOpenR
import Derived.Test.YtceeijbnhnpfgaaOpenM
import Derived.Test.YtceeijbnhnpfgaaOpen
import Derived.Test.YtceeijbnhnpfgaaCutsI
import Derived.Test.YtceeijbnhnpfgaaCutsS
import Derived.Test.YtceeijbnhnpfgaaMarkR
import Derived.WalkKit
import Derived.Deep.RegionHeld3
import Derived.ProofKit
import Derived.OpenShut
namespace Go.Proofs.Ytceeijbnhnpfgaa.fnExactAllCuts
open Go.ChangeShapes Go.WideShapes Go.ChangeAt Go.RowKit
open Go.ChangeMaps (open_string)
set_option linter.unusedVariables false
theorem cells_int : Try.prog.cellsOf 3 = 1 := by kernel_rfl
set_option maxHeartbeats 4000000 in
set_option maxRecDepth 100000 in
theorem walk (w : World) (a0 : Int) (wf0 : (Lit.int .i64 a0).wf = true) (a1 : Int) (wf1 : (Lit.int .i64 a1).wf = true) : Calls Try.prog 6 #[.int .i64 a0, .int .i64 a1] w fun e w' => e = .returned (.bool true) ∧ Below w.heap.size w w' := by
  have hcu := cuts_small a0 a1
  have hcn : (cuts a0 a1).length ≤ 1048576 := by omega
  have hcsm : SmR (cuts a0 a1) := fun j d hd => by have := hcu.2 d (List.mem_of_getElem? hd); omega
  have hcm : mkN ((cuts a0 a1).flatMap rowF) ≤ 70 * 8 := mkN_rows hcu.1 hcu.2
  clear hcu
  go_enter Try.func6, Try.ntmps6
  go_wp2_with fail
  refine (spec_AllCuts a0 a1 w).mono ?_
  rintro e w1 ⟨A_r0, c_r0, rfl, h_r0, hb⟩
  have hh_r0 : OwRows w1 (w.heap.size) (w1.heap.size) (.slice A_r0 (cuts a0 a1).length c_r0) (cuts a0 a1).length ((cuts a0 a1).flatMap rowF) := h_r0
  clear h_r0
  have hB_w1 : Below w.heap.size w w1 := hb
  have hs_w1 : w.heap.size ≤ w1.heap.size := hb.size
  clear hb
  have h_r0 := hh_r0
  clear hh_r0
  go_wp2_with fail
  refine (impl_AllCuts a0 a1 w1).mono ?_
  rintro e w2 ⟨A_g0, c_g0, rfl, h_g0, hb⟩
  have hh_g0 : OwRows w2 (w1.heap.size) (w2.heap.size) (.slice A_g0 (cuts a0 a1).length c_g0) (cuts a0 a1).length ((cuts a0 a1).flatMap rowF) := h_g0
  clear h_g0
  have hB_w2 : Below w.heap.size w w2 := below2 hB_w1 hb
  have hs_w2 : w1.heap.size ≤ w2.heap.size := hb.size
  replace h_r0 := h_r0.below hb
  clear hb
  have h_g0 := hh_g0
  clear hh_g0
  go_wp2_with fail
  refine (laws_eqRowS w2 h_g0.rl h_r0.rl (by omega) (by omega) hcn hcsm).mono ?_
  rintro e w3 ⟨rfl, hb⟩
  have hB_w3 : Below w.heap.size w w3 := below2 hB_w2 hb
  have hs_w3 : w2.heap.size ≤ w3.heap.size := hb.size
  replace h_r0 := h_r0.below hb
  replace h_g0 := h_g0.below hb
  clear hb
  go_wp2_with fail
  refine (laws_markRowS (1) w3 h_g0 hcn hcsm (by omega) (by omega)).mono ?_
  rintro e w4 ⟨rfl, hm, ho⟩
  have hB_w4 : Below w.heap.size w w4 := hB_w3.trans (ho.below hB_w3.size (fun q hq h3 => by have h4 : w1.heap.size ≤ q ∧ q < w2.heap.size := h3; omega))
  have hs_w4 : w3.heap.size ≤ w4.heap.size := ho.size
  replace h_r0 := h_r0.farI ho (by omega)
  clear h_g0 ho
  have h_g0 := hm
  clear hm
  go_wp2_with fail
  refine (laws_heldRowS (1) w4 h_g0 hcn hcsm (by omega) (by omega)).mono ?_
  rintro e w5 ⟨rfl, hb⟩
  have hB_w5 : Below w.heap.size w w5 := below2 hB_w4 hb
  have hs_w5 : w4.heap.size ≤ w5.heap.size := hb.size
  replace h_r0 := h_r0.below hb
  replace h_g0 := h_g0.below hb
  clear hb
  go_wp2_with fail
  refine (impl_AllCuts a0 a1 w5).mono ?_
  rintro e w6 ⟨A_h0, c_h0, rfl, h_h0, hb⟩
  have hh_h0 : OwRows w6 (w5.heap.size) (w6.heap.size) (.slice A_h0 (cuts a0 a1).length c_h0) (cuts a0 a1).length ((cuts a0 a1).flatMap rowF) := h_h0
  clear h_h0
  have hB_w6 : Below w.heap.size w w6 := below2 hB_w5 hb
  have hs_w6 : w5.heap.size ≤ w6.heap.size := hb.size
  replace h_r0 := h_r0.below hb
  replace h_g0 := h_g0.below hb
  clear hb
  have h_h0 := hh_h0
  clear hh_h0
  go_wp2_with fail
  refine (laws_eqRowS w6 h_h0.rl h_r0.rl (by omega) (by omega) hcn hcsm).mono ?_
  rintro e w7 ⟨rfl, hb⟩
  have hB_w7 : Below w.heap.size w w7 := below2 hB_w6 hb
  have hs_w7 : w6.heap.size ≤ w7.heap.size := hb.size
  replace h_r0 := h_r0.below hb
  replace h_g0 := h_g0.below hb
  replace h_h0 := h_h0.below hb
  clear hb
  go_wp2_with fail
  refine (laws_heldRowS (1) w7 h_g0 hcn hcsm (by omega) (by omega)).mono ?_
  rintro e w8 ⟨rfl, hb⟩
  have hB_w8 : Below w.heap.size w w8 := below2 hB_w7 hb
  have hs_w8 : w7.heap.size ≤ w8.heap.size := hb.size
  replace h_r0 := h_r0.below hb
  replace h_g0 := h_g0.below hb
  replace h_h0 := h_h0.below hb
  clear hb
  go_wp2_with fail
  go_ret
  exact ⟨rfl, hB_w8⟩
set_option maxRecDepth 100000 in
theorem lifted (os : Os) (started : os.Started) (H : Type) (enc : TypeId × Value → H) :
    ReturnsInHanded {} Try.checked os 6 .any (Rows.fnExactAllCutsSpec.pre6 enc Try.prog Try.f6 Rows.fnExactAllCutsRow.domain false) (Rows.fnExactAllCutsSpec.post enc Try.prog Try.f6 false true false false) := by
  refine law_lifted (C := Try.checked) (f := 6) (fn := Try.f6) (tb := 4) os (by kernel_rfl) started (by kernel_rfl) Try.func6 (by kernel_rfl) (by kernel_rfl) rfl Try.underlying4 rfl (fun H ds h => ?_) H enc
    (ChangeSpec.witness6 (enc := enc) (C := Try.checked) false ⟨#[], #[.int .i64 0, .int .i64 0], []⟩ 8 (by kernel_rfl) (by kernel_rfl) (by kernel_rfl) (by kernel_rfl)) ?_
  · rw [show Try.f6.params.size = 2 from by kernel_rfl] at h
    match ds, h with
    | [d0, d1], _ => rfl
  intro W base args ds ps hval hA hlt
  have hval : ∀ (j : Nat) t v, Try.f6.params[j]? = some t → args[j]? = some v → Value.okWide Try.prog W .any base t v := hval
  have hA : DataW.TrodAll enc Try.prog W 0 (fun _ => true) true Try.f6.params.toList args.toList ds ps := hA
  rw [Try.params6] at hA hval
  obtain ⟨v0, vs0, d0, ds0, p0, q0, hargs, rfl, rfl, h0, r0⟩ := trodAll_cons hA
  obtain ⟨v1, vs1, d1, ds1, p1, q1, rfl, rfl, rfl, h1, r1⟩ := trodAll_cons r0
  obtain ⟨rfl, rfl, rfl⟩ := trodAll_nil r1
  obtain rfl : args = #[v0, v1] := by cases args; simp_all
  obtain ⟨a0, rfl, rfl, rfl, wf0⟩ := open_int Try.underlying3 (hval 0 3 v0 rfl rfl) h0
  obtain ⟨a1, rfl, rfl, rfl, wf1⟩ := open_int Try.underlying3 (hval 1 3 v1 rfl rfl) h1
  exact walk W a0 wf0 a1 wf1
theorem proved : Rows.FnExactAllCutsSaid :=
  OpenClaim.holds_of_wide 6 Try.f6 rfl rfl rfl rfl rfl rfl rfl ⟨rfl, rfl, rfl, rfl, rfl⟩ rfl rfl rfl rfl rfl (by kernel_rfl) Try.func6 (by kernel_rfl)
    (of_decide_eq_true (by kernel_rfl)) (by unfold Func.isWrapper; first | (rw [if_pos (by decide +kernel)]; kernel_rfl) | (rw [if_neg (by decide +kernel)]; exact ⟨rfl, rfl⟩))
    (fun os started H enc _ => lifted os started H enc)
#print axioms proved
end Go.Proofs.Ytceeijbnhnpfgaa.fnExactAllCuts
