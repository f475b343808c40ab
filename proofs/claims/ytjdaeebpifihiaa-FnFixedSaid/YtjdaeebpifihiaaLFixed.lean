/-
  PROVED HERE: the law 'laws.FnFixed' returns true and leaves its arguments as they were, for every input, without a condition.
-/
import Derived.Test.YtjdaeebpifihiaaRows
import Derived.Test.YtjdaeebpifihiaaFrame
import Derived.Test.YtjdaeebpifihiaaOpenB
import Derived.Deep.Cut
import Derived.WalkKit
import Derived.Deep.RegionHeld3
import Derived.ProofKit
import Derived.OpenShut
namespace Go.Proofs.Ytjdaeebpifihiaa.fnFixed
open Go.ChangeShapes Go.WideShapes Go.ChangeAt Go.RowKit
open Go.ChangeMaps (open_string)
set_option linter.unusedVariables false
theorem cells_u8 : Try.prog.cellsOf 5 = 1 := by kernel_rfl
theorem clp_idem {x : Int} (h1 : -2147483647 ≤ x) (h2 : x ≤ 2147483647) : clp x = x := by rw [clp]; split <;> (try split) <;> omega
theorem ok_clp (x : Int) : fxOk (clp x) = true := by have := clp_bd x; simp [fxOk]; omega
theorem ok_in {x : Int} (h : fxOk x = true) : -2147483647 ≤ x ∧ x ≤ 2147483647 := by simpa [fxOk] using h
theorem add_comm' (a b : Int) : fxAdd a b = fxAdd b a ∧ fxAddS a b = fxAddS b a := by rw [fxAdd, fxAdd, fxAddS, fxAddS, Int.add_comm]; exact ⟨rfl, rfl⟩
theorem mul_comm' (a b : Int) : fxMul a b = fxMul b a ∧ fxMulS a b = fxMulS b a := by rw [fxMul, fxMul, fxMulS, fxMulS, Int.mul_comm]; exact ⟨rfl, rfl⟩
theorem mul_one' {a : Int} (h : fxOk a = true) : fxMul a 65536 = a ∧ fxMulS a 65536 = false := by
  have h1 := ok_in h
  rw [fxMul, fxMulS, clp_idem h1.1 h1.2, show clp 65536 = 65536 from by decide, Int.mul_ediv_cancel _ (by decide)]
  exact ⟨clp_idem h1.1 h1.2, by simp [sat]; omega⟩
theorem mul_zero' (a : Int) : fxMul a 0 = 0 ∧ fxMulS a 0 = false := by rw [fxMul, fxMulS, show clp 0 = 0 from by decide, Int.mul_zero]; decide
theorem add_sub {a b : Int} (ha : fxOk a = true) (hb : fxOk b = true) (hs : fxAddS a b = false) : fxSub (fxAdd a b) b = a ∧ fxSubS (fxAdd a b) b = false := by
  have h1 := ok_in ha
  have h2 := ok_in hb
  rw [fxAddS, clp_idem h1.1 h1.2, clp_idem h2.1 h2.2] at hs
  have h3 : -2147483647 ≤ a + b ∧ a + b ≤ 2147483647 := by simp [sat] at hs; omega
  rw [fxSub, fxSubS, fxAdd, clp_idem h1.1 h1.2, clp_idem h2.1 h2.2, clp_idem h3.1 h3.2, clp_idem h3.1 h3.2, show a + b - b = a from by omega]
  exact ⟨clp_idem h1.1 h1.2, by simp [sat]; omega⟩
theorem sat_edge {x : Int} (h : sat x = true) : clp x = 2147483647 ∨ clp x = -2147483647 := by
  simp [sat] at h
  rw [clp]; split <;> (try split) <;> omega
theorem relu_or (a : Int) : 0 ≤ fxRelu a ∧ (fxRelu a = 0 ∨ fxRelu a = clp a) := by rw [fxRelu]; split <;> omega
theorem neg_neg' (a : Int) : fxNeg (fxNeg a) = clp a := by have := clp_bd a; rw [fxNeg, fxNeg, clp_idem (by omega) (by omega)]; omega
set_option maxHeartbeats 4000000 in
set_option maxRecDepth 100000 in
theorem walk (w : World) {A0 : Option Addr} {n0 c0 : Nat} (hC0 : (n0 : Int) ≤ 1048576 → BA w w.heap.size A0 n0 c0) : Calls Try.prog 6 #[.slice A0 n0 c0] w fun e w' => e = .returned (.bool true) ∧ Below w.heap.size w w' := by
  by_cases hL : (1048576 : Int) < (n0 : Int)
  · go_enter Try.func6, Try.ntmps6
    go_wp2_with fail
    refine (laws_big_yes _ _ _ w hL).mono ?_
    rintro e w' ⟨rfl, rfl⟩
    go_wp2_with fail
    go_ret
    exact ⟨rfl, Below.refl _ _⟩
  have hb0 := hide (hC0 (by omega))
  have HL := hide (show (n0 : Int) ≤ 1048576 by omega)
  clear hC0 hL
  go_enter Try.func6, Try.ntmps6
  go_wp2_with fail
  refine (laws_big_no _ _ _ w HL.out).mono ?_
  rintro e w' ⟨rfl, rfl⟩
  go_wp2_with fail
  refine (spec_DrawFixAdd w hb0.out (Nat.le_refl _)).mono ?_
  rintro e w1 ⟨a, b, rfl, ha0, ha1, hb0', hb1', hB⟩
  have HW := hide hB
  clear hB hb0' hb1' HL hb0
  obtain ⟨x, hx⟩ : ∃ x, fxAdd a b = x := ⟨_, rfl⟩
  obtain ⟨s, hs⟩ : ∃ s, fxAddS a b = s := ⟨_, rfl⟩
  obtain ⟨m, hm⟩ : ∃ m, fxMul a b = m := ⟨_, rfl⟩
  obtain ⟨u, hu⟩ : ∃ u, fxMulS a b = u := ⟨_, rfl⟩
  obtain ⟨d, hd⟩ : ∃ d, fxSub x b = d := ⟨_, rfl⟩
  obtain ⟨t, ht⟩ : ∃ t, fxSubS x b = t := ⟨_, rfl⟩
  obtain ⟨o, ho⟩ : ∃ o, fxMul a 65536 = o := ⟨_, rfl⟩
  obtain ⟨z, hz⟩ : ∃ z, fxMulS a 65536 = z := ⟨_, rfl⟩
  obtain ⟨k, hk⟩ : ∃ k, fxNeg a = k := ⟨_, rfl⟩
  obtain ⟨g, hg⟩ : ∃ g, fxNeg k = g := ⟨_, rfl⟩
  obtain ⟨r, hr⟩ : ∃ r, fxRelu a = r := ⟨_, rfl⟩
  obtain ⟨oa, hoa⟩ : ∃ oa, fxOk a = oa := ⟨_, rfl⟩
  obtain ⟨ob, hob⟩ : ∃ ob, fxOk b = ob := ⟨_, rfl⟩
  have hgk : g = -k := by rw [← hg, ← hk, neg_neg', fxNeg]; omega
  have hkb : -2147483647 ≤ k ∧ k ≤ 2147483647 := by have := clp_bd a; rw [← hk, fxNeg]; omega
  have hr0 : 0 ≤ r := hr ▸ (relu_or a).1
  have hr1 : r = 0 ∨ r = g := by rcases (relu_or a).2 with h | h; exact .inl (by omega); exact .inr (by rw [← hr, h, ← hg, ← hk, neg_neg'])
  have C1 := hide (show ∀ W, Calls Try.prog 33 #[.int .i64 a, .int .i64 b] W fun e w' => e = .returned (.tuple #[.int .i64 x, .bool s]) ∧ W = w' from fun W => by rw [← hx, ← hs]; exact impl_FixAdd a b W)
  have C2 := hide (show ∀ W, Calls Try.prog 33 #[.int .i64 b, .int .i64 a] W fun e w' => e = .returned (.tuple #[.int .i64 x, .bool s]) ∧ W = w' from fun W => by rw [← hx, ← hs, (add_comm' a b).1, (add_comm' a b).2]; exact impl_FixAdd b a W)
  have C3 := hide (show ∀ W, Calls Try.prog 34 #[.int .i64 a, .int .i64 b] W fun e w' => e = .returned (.tuple #[.int .i64 m, .bool u]) ∧ W = w' from fun W => by rw [← hm, ← hu]; exact impl_FixMul a b W)
  have C4 := hide (show ∀ W, Calls Try.prog 34 #[.int .i64 b, .int .i64 a] W fun e w' => e = .returned (.tuple #[.int .i64 m, .bool u]) ∧ W = w' from fun W => by rw [← hm, ← hu, (mul_comm' a b).1, (mul_comm' a b).2]; exact impl_FixMul b a W)
  have O1 := hide (show ∀ W, Calls Try.prog 35 #[.int .i64 x] W fun e w' => e = .returned (.bool true) ∧ W = w' from fun W => by have := spec_FixOk x W; rw [← hx, fxAdd, ok_clp] at this; rw [← hx]; exact this)
  have O2 := hide (show ∀ W, Calls Try.prog 35 #[.int .i64 m] W fun e w' => e = .returned (.bool true) ∧ W = w' from fun W => by have := spec_FixOk m W; rw [← hm, fxMul, ok_clp] at this; rw [← hm]; exact this)
  have O3 := hide (show ∀ W, Calls Try.prog 35 #[.int .i64 a] W fun e w' => e = .returned (.bool oa) ∧ W = w' from fun W => by rw [← hoa]; exact spec_FixOk a W)
  have O4 := hide (show ∀ W, Calls Try.prog 35 #[.int .i64 b] W fun e w' => e = .returned (.bool ob) ∧ W = w' from fun W => by rw [← hob]; exact spec_FixOk b W)
  have O5 := hide (show ∀ W, Calls Try.prog 35 #[.int .i64 k] W fun e w' => e = .returned (.bool true) ∧ W = w' from fun W => by have := spec_FixOk k W; rw [show fxOk k = true from by simp [fxOk]; omega] at this; exact this)
  have OZ := hide (show ∀ W, Calls Try.prog 35 #[.int .i64 0] W fun e w' => e = .returned (.bool true) ∧ W = w' from fun W => spec_FixOk 0 W)
  have C5 := hide (show ∀ W, Calls Try.prog 36 #[.int .i64 x, .int .i64 b] W fun e w' => e = .returned (.tuple #[.int .i64 d, .bool t]) ∧ W = w' from fun W => by rw [← hd, ← ht]; exact impl_FixSub x b W)
  have C6 := hide (show ∀ W, Calls Try.prog 34 #[.int .i64 a, .int .i64 65536] W fun e w' => e = .returned (.tuple #[.int .i64 o, .bool z]) ∧ W = w' from fun W => by rw [← ho, ← hz]; exact impl_FixMul a 65536 W)
  have C7 := hide (show ∀ W, Calls Try.prog 34 #[.int .i64 a, .int .i64 0] W fun e w' => e = .returned (.tuple #[.int .i64 0, .bool false]) ∧ W = w' from fun W => by have := impl_FixMul a 0 W; rw [(mul_zero' a).1, (mul_zero' a).2] at this; exact this)
  have C8 := hide (show ∀ W, Calls Try.prog 37 #[.int .i64 a] W fun e w' => e = .returned (.int .i64 k) ∧ W = w' from fun W => by rw [← hk]; exact impl_FixNeg a W)
  have C9 := hide (show ∀ W, Calls Try.prog 37 #[.int .i64 k] W fun e w' => e = .returned (.int .i64 g) ∧ W = w' from fun W => by rw [← hg]; exact impl_FixNeg k W)
  have C10 := hide (show ∀ W, Calls Try.prog 38 #[.int .i64 a] W fun e w' => e = .returned (.int .i64 r) ∧ W = w' from fun W => by rw [← hr]; exact impl_Relu a W)
  have FO := hide (show oa = true → o = a ∧ z = false from fun h => by have := mul_one' (hoa.trans h); rw [ho, hz] at this; exact this)
  have FD := hide (show oa = true → ob = true → s = false → d = a ∧ t = false from fun h1 h2 h3 => by have := add_sub (hoa.trans h1) (hob.trans h2) (hs.trans h3); rw [hx, hd, ht] at this; exact this)
  have FS := hide (show s = true → x = 2147483647 ∨ x = -2147483647 from fun h => by rw [← hx]; exact sat_edge (hs.trans h))
  have FU := hide (show u = true → m = 2147483647 ∨ m = -2147483647 from fun h => by rw [← hm]; exact sat_edge (hu.trans h))
  have FK := hide (show oa = true → k = -a from fun h => by have := ok_in (hoa.trans h); rw [← hk, fxNeg, clp_idem this.1 this.2])
  clear hx hs hm hu hd ht ho hz hk hg hr hoa hob
  subst hgk
  go_wp2_with fail
  refine (C1.out w1).mono ?_
  rintro e w' ⟨rfl, rfl⟩
  go_wp2_with fail
  refine (C2.out w1).mono ?_
  rintro e w' ⟨rfl, rfl⟩
  go_wp2_with fail
  refine (C3.out w1).mono ?_
  rintro e w' ⟨rfl, rfl⟩
  go_wp2_with fail
  refine (C4.out w1).mono ?_
  rintro e w' ⟨rfl, rfl⟩
  go_wp2_with fail
  refine (O1.out w1).mono ?_
  rintro e w' ⟨rfl, rfl⟩
  go_wp2_with fail
  refine (O2.out w1).mono ?_
  rintro e w' ⟨rfl, rfl⟩
  go_wp2_with fail
  refine (C5.out w1).mono ?_
  rintro e w' ⟨rfl, rfl⟩
  go_wp2_with fail
  refine (C6.out w1).mono ?_
  rintro e w' ⟨rfl, rfl⟩
  go_wp2_with fail
  refine (C7.out w1).mono ?_
  rintro e w' ⟨rfl, rfl⟩
  have HS := hide (show (s = false) ∨ (s = true ∧ x = 2147483647) ∨ (s = true ∧ x = -2147483647) from by cases s; exact .inl rfl; rcases FS.out rfl with h | h; exact .inr (.inl ⟨rfl, h⟩); exact .inr (.inr ⟨rfl, h⟩))
  have HU := hide (show (u = false) ∨ (u = true ∧ m = 2147483647) ∨ (u = true ∧ m = -2147483647) from by cases u; exact .inl rfl; rcases FU.out rfl with h | h; exact .inr (.inl ⟨rfl, h⟩); exact .inr (.inr ⟨rfl, h⟩))
  have HR := hide hr1
  clear hr1 FS FU C1 C2 C3 C4 C5 C6 C7 O1 O2
  go_upto_region 13 with fail
  go_cut [132] from 96 (fun v W => v = .bool false ∧ W = w1)
  case first =>
    clear HS HU HR FK C8 C9 C10
    cases oa
    case' false =>
      go_wp2_with fail
      refine (O3.out w1).mono ?_
      rintro e w' ⟨rfl, rfl⟩
      go_wp2_with fail
      refine (O3.out w1).mono ?_
      rintro e w' ⟨rfl, rfl⟩
    case' true =>
      obtain ⟨rfl, rfl⟩ := FO.out rfl
      cases ob
      case' true =>
        cases s
        case' false =>
          obtain ⟨rfl, rfl⟩ := FD.out rfl rfl rfl
      all_goals
        go_wp2_with fail
        refine (O3.out w1).mono ?_
        rintro e w' ⟨rfl, rfl⟩
        go_wp2_with fail
        refine (O3.out w1).mono ?_
        rintro e w' ⟨rfl, rfl⟩
        go_wp2_with fail
        refine (O4.out w1).mono ?_
        rintro e w' ⟨rfl, rfl⟩
    all_goals
      go_wp2_with fail
      go_meet
      case rel => exact ⟨rfl, rfl⟩
  case rest =>
    obtain ⟨rfl, rfl⟩ := hcut
    clear FO FD
    go_upto_region 15 with fail
    go_cut [152] from 96 (fun v W => v = .bool false ∧ W = wc)
    case first =>
      clear HR FK C8 C9 C10 O3 O4 O5 OZ
      rcases HS.out with rfl | ⟨rfl, rfl⟩ | ⟨rfl, rfl⟩
      all_goals
        rcases HU.out with rfl | ⟨rfl, rfl⟩ | ⟨rfl, rfl⟩
      all_goals
        go_wp2_with fail
        go_meet
        case rel => exact ⟨rfl, rfl⟩
    case rest =>
      obtain ⟨rfl, rfl⟩ := hcut
      clear HS HU
      cases oa
      case' true =>
        obtain rfl := FK.out rfl
      all_goals
        clear FK
        go_wp2_with fail
        refine (C8.out _).mono ?_
        rintro e w' ⟨rfl, rfl⟩
        go_wp2_with fail
        refine (C10.out _).mono ?_
        rintro e w' ⟨rfl, rfl⟩
        go_wp2_with fail
        refine (C9.out _).mono ?_
        rintro e w' ⟨rfl, rfl⟩
        go_wp2_with fail
        refine (O5.out _).mono ?_
        rintro e w' ⟨rfl, rfl⟩
        rcases HR.out with rfl | rfl
      all_goals
        clear HR C8 C10
        go_wp2_with (first | (go_at_call 35; (first | refine (O3.out _).mono ?_ | refine (O5.out _).mono ?_ | refine (OZ.out _).mono ?_); rintro e w' ⟨rfl, rfl⟩) | (go_at_call 37; refine (C9.out _).mono ?_; rintro e w' ⟨rfl, rfl⟩))
      all_goals
        go_ret
        exact ⟨rfl, HW.out⟩
set_option maxRecDepth 100000 in
theorem lifted (os : Os) (started : os.Started) (H : Type) (enc : TypeId × Value → H) :
    ReturnsInHanded {} Try.checked os 6 .any (Rows.fnFixedSpec.pre6 enc Try.prog Try.f6 Rows.fnFixedRow.domain false) (Rows.fnFixedSpec.post enc Try.prog Try.f6 false true false false) := by
  refine law_lifted (C := Try.checked) (f := 6) (fn := Try.f6) (tb := 4) os (by kernel_rfl) started (by kernel_rfl) Try.func6 (by kernel_rfl) (by kernel_rfl) rfl Try.underlying4 rfl (fun H ds h => ?_) H enc
    (ChangeSpec.witness6 (enc := enc) (C := Try.checked) false ⟨#[], #[.slice none 0 0], []⟩ 8 (by kernel_rfl) (by kernel_rfl) (by kernel_rfl) (by kernel_rfl)) ?_
  · rw [show Try.f6.params.size = 1 from by kernel_rfl] at h
    match ds, h with
    | [d0], _ => rfl
  intro W base args ds ps hval hA hlt
  have hval : ∀ (j : Nat) t v, Try.f6.params[j]? = some t → args[j]? = some v → Value.okWide Try.prog W .any base t v := hval
  have hA : DataW.TrodAll enc Try.prog W 0 (fun _ => true) true Try.f6.params.toList args.toList ds ps := hA
  rw [Try.params6] at hA hval
  obtain ⟨v0, vs0, d0, ds0, p0, q0, hargs, rfl, rfl, h0, r0⟩ := trodAll_cons hA
  obtain ⟨rfl, rfl, rfl⟩ := trodAll_nil r0
  obtain rfl : args = #[v0] := by cases args; simp_all
  obtain ⟨A0, n0, c0, rfl, hC0⟩ := openB Try.underlying22 Try.underlying5 cells_u8 (hval 0 22 v0 rfl rfl) h0 (fun x hx => hlt x (by simp [hx]))
  exact walk W hC0
theorem proved : Rows.FnFixedSaid :=
  OpenClaim.holds_of_wide 6 Try.f6 rfl rfl rfl rfl rfl rfl rfl ⟨rfl, rfl, rfl, rfl, rfl⟩ rfl rfl rfl rfl rfl (by kernel_rfl) Try.func6 (by kernel_rfl)
    (of_decide_eq_true (by kernel_rfl)) (by unfold Func.isWrapper; first | (rw [if_pos (by decide +kernel)]; kernel_rfl) | (rw [if_neg (by decide +kernel)]; exact ⟨rfl, rfl⟩))
    (fun os started H enc _ => lifted os started H enc)
#print axioms proved
end Go.Proofs.Ytjdaeebpifihiaa.fnFixed
