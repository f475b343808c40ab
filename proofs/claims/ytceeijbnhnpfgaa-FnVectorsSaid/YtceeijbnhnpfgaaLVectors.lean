/-
  PROVED HERE: the law 'laws.FnVectors' returns true and leaves its arguments as they were, for every input, without a condition.
-/
import Derived.Test.YtceeijbnhnpfgaaRows
import Derived.Test.YtceeijbnhnpfgaaFrame
import Derived.Test.YtceeijbnhnpfgaaOpenB
import Derived.Test.YtceeijbnhnpfgaaVec2
import Derived.Test.YtceeijbnhnpfgaaSame
import Derived.Laws.OwnMore
import Derived.Deep.Cut
import Derived.WalkKit
import Derived.Deep.RegionHeld3
import Derived.ProofKit
import Derived.OpenShut
namespace Go.Proofs.Ytceeijbnhnpfgaa.fnVectors
open Go.ChangeShapes Go.WideShapes Go.ChangeAt Go.RowKit
open Go.ChangeMaps (open_string)
set_option linter.unusedVariables false
theorem cells_u8 : Try.prog.cellsOf 5 = 1 := by kernel_rfl
theorem fxAdd_comm (a b : Int) : fxAdd a b = fxAdd b a := by rw [fxAdd, fxAdd, Int.add_comm]
theorem fxAddS_comm (a b : Int) : fxAddS a b = fxAddS b a := by rw [fxAddS, fxAddS, Int.add_comm]
theorem fxMul_comm (a b : Int) : fxMul a b = fxMul b a := by rw [fxMul, fxMul, Int.mul_comm]
theorem fxMulS_comm (a b : Int) : fxMulS a b = fxMulS b a := by rw [fxMulS, fxMulS, Int.mul_comm]
theorem zip_comm {α : Type} (f : Int → Int → α) (hf : ∀ a b, f a b = f b a) : ∀ xs ys : List Int, List.zipWith f xs ys = List.zipWith f ys xs
  | [], [] => rfl
  | [], _ :: _ => rfl
  | _ :: _, [] => rfl
  | x :: xs, y :: ys => by rw [List.zipWith_cons_cons, List.zipWith_cons_cons, hf, zip_comm f hf xs ys]
theorem pairV_comm (xs ys : List Int) : pairV xs ys = pairV ys xs := by
  rw [pairV, pairV, Bool.and_comm (okV xs), show decide (xs.length = ys.length) = decide (ys.length = xs.length) from by rw [decide_eq_decide]; exact eq_comm]
theorem vAdd_comm (xs ys : List Int) : vAdd xs ys = vAdd ys xs := by rw [vAdd, vAdd, pairV_comm, zip_comm fxAdd fxAdd_comm]
theorem dotGo_comm : ∀ (xs ys : List Int) (s : Int) (b : Bool), dotGo s b xs ys = dotGo s b ys xs
  | [], [], _, _ => rfl
  | [], _ :: _, _, _ => rfl
  | _ :: _, [], _, _ => rfl
  | x :: xs, y :: ys, s, b => by rw [dotGo, dotGo, fxMul_comm, fxMulS_comm]; exact dotGo_comm xs ys _ _
theorem vDot_comm (xs ys : List Int) : vDot ys xs = vDot xs ys ∧ vDotS ys xs = vDotS xs ys := by
  rw [vDot, vDot, vDotS, vDotS, pairV_comm, dotGo_comm]; exact ⟨rfl, rfl⟩
theorem clp_ok {x : Int} (h : fxOk x = true) : clp x = x := by
  simp only [fxOk, Bool.and_eq_true, decide_eq_true_eq] at h
  unfold clp; split <;> (try split) <;> omega
theorem sat_ok {x : Int} (h : fxOk x = true) : sat x = false := by
  simp only [fxOk, Bool.and_eq_true, decide_eq_true_eq] at h
  unfold sat; simp; omega
theorem mul0 (x : Int) : fxMul x 0 = 0 ∧ fxMulS x 0 = false := by
  rw [fxMul, fxMulS, show clp 0 = 0 from by decide, Int.mul_zero]; exact ⟨by decide, by decide⟩
theorem mul1 {x : Int} (h : fxOk x = true) : fxMul x 65536 = x ∧ fxMulS x 65536 = false := by
  rw [fxMul, fxMulS, show clp 65536 = 65536 from by decide, clp_ok h, Int.mul_ediv_cancel _ (by omega), clp_ok h]; exact ⟨rfl, sat_ok h⟩
theorem add00 {x : Int} (h : fxOk x = true) : fxAdd x 0 = x ∧ fxAddS x 0 = false := by
  rw [fxAdd, fxAddS, show clp 0 = 0 from by decide, clp_ok h, Int.add_zero, clp_ok h]; exact ⟨rfl, sat_ok h⟩
theorem add0 {x : Int} (h : fxOk x = true) : fxAdd 0 x = x ∧ fxAddS 0 x = false := by
  rw [fxAdd_comm, fxAddS_comm]; exact add00 h
/-- nought everywhere -/
theorem dotz : ∀ (n : Nat) (xs : List Int) (s : Int), fxOk s = true → dotGo s false xs (List.replicate n 0) = (s, false)
  | 0, [], _, _ => rfl
  | 0, _ :: _, _, _ => rfl
  | _ + 1, [], _, _ => rfl
  | n + 1, x :: xs, s, hs => by
    rw [List.replicate_succ, dotGo, (mul0 x).1, (mul0 x).2, (add00 hs).1, (add00 hs).2]
    exact dotz n xs s hs
/-- one at the place i -/
theorem dot1 : ∀ (i n : Nat) (xs : List Int), xs.length = n → i < n → xs.all fxOk = true →
    dotGo 0 false xs ((List.replicate n 0).set i 65536) = (xs.getD i 0, false)
  | _, 0, _, _, h, _ => absurd h (by omega)
  | _, _ + 1, [], h, _, _ => absurd h (by simp)
  | 0, n + 1, x :: xs, hl, _, ha => by
    simp only [List.all_cons, Bool.and_eq_true] at ha
    rw [List.replicate_succ, List.set_cons_zero, dotGo, (mul1 ha.1).1, (mul1 ha.1).2, (add0 ha.1).1, (add0 ha.1).2]
    exact dotz n xs x ha.1
  | i + 1, n + 1, x :: xs, hl, hi, ha => by
    simp only [List.all_cons, Bool.and_eq_true] at ha
    rw [List.replicate_succ, List.set_cons_succ, dotGo, (mul0 x).1, (mul0 x).2, (add00 (by decide)).1, (add00 (by decide)).2]
    exact dot1 i n xs (by simpa using hl) (by omega) ha.2
theorem unit_ok : ∀ (n i : Nat), ((List.replicate n (0 : Int)).set i 65536).all fxOk = true
  | 0, _ => rfl
  | n + 1, 0 => by
    rw [List.replicate_succ, List.set_cons_zero, List.all_cons, show fxOk 65536 = true from by decide, List.all_replicate]; simp [fxOk]
  | n + 1, i + 1 => by
    rw [List.replicate_succ, List.set_cons_succ, List.all_cons, show fxOk 0 = true from by decide, unit_ok n i]; rfl
theorem unitDot {xs : List Int} {n i : Nat} (hx : okV xs = true) (hl : xs.length = n) (hi : i < n) :
    vDot xs ((List.replicate n 0).set i 65536) = xs.getD i 0 ∧ vDotS xs ((List.replicate n 0).set i 65536) = false := by
  have h6 := okV_len hx
  have hp : pairV xs ((List.replicate n 0).set i 65536) = true := by
    have hu := unit_ok n i
    simp only [pairV, okV, Bool.and_eq_true, decide_eq_true_eq, List.length_set, List.length_replicate] at hx ⊢
    exact ⟨⟨hx, ⟨by omega, by omega⟩, hu⟩, hl⟩
  rw [vDot, vDotS, hp, dot1 i n xs hl hi (okV_all hx)]
  exact ⟨rfl, rfl⟩
theorem made_ints (n : Nat) : (madeCells (Value.int .i64 0).cells (n * 1)).toList = ivs (List.replicate n 0) := by
  apply List.ext_getElem
  · simp [madeCells, ivs]
  · intro j h1 h2
    simp [madeCells, ivs, Value.cells, Nat.mod_one]
theorem make_int (w : World) (base n : Nat) (hn : n ≤ 1000000) (hb : base ≤ w.heap.size) :
    ∃ w', (Instr.makeSlice 24 (.int .i64 (n : Int)) (.int .i64 (n : Int))).run Try.prog w = .ok (.slice (some ⟨w.heap.size, 0, none⟩) n n) w' ∧
      w'.ownsRow base 3 1 (.slice (some ⟨w.heap.size, 0, none⟩) n n) n (ivs (List.replicate n 0)) ∧ w.grownBy w' none := by
  obtain ⟨i, hi, hzz⟩ := Option.map_eq_some_iff.1 int_info
  simp only [Prod.mk.injEq] at hzz
  obtain ⟨hz, hs, hb8⟩ := hzz
  have := run_make_full (P := Try.prog) w base 24 3 i _ 1 Try.underlying24 hi hz hs .i64 .i64 n (by rw [hb8]; omega) (by simp [maxLen]; omega) hb
  rwa [made_ints] at this
set_option maxHeartbeats 4000000 in
set_option maxRecDepth 100000 in
theorem walk (w : World) {A0 : Option Addr} {n0 c0 : Nat} (hC0 : (n0 : Int) ≤ 1048576 → BA w w.heap.size A0 n0 c0) : Calls Try.prog 3 #[.slice A0 n0 c0] w fun e w' => e = .returned (.bool true) ∧ Below w.heap.size w w' := by
  by_cases hL : (1048576 : Int) < (n0 : Int)
  · go_enter Try.func3, Try.ntmps3
    go_wp2_with fail
    refine (laws_big_yes _ _ _ w hL).mono ?_
    rintro e w' ⟨rfl, rfl⟩
    go_wp2_with fail
    go_ret
    exact ⟨rfl, Below.refl _ _⟩
  have hb0 := hide (hC0 (by omega))
  have HL := hide (show (n0 : Int) ≤ 1048576 by omega)
  clear hC0 hL
  go_enter Try.func3, Try.ntmps3
  go_wp2_with fail
  refine (laws_big_no _ _ _ w HL.out).mono ?_
  rintro e w' ⟨rfl, rfl⟩
  go_wp2_with fail
  refine (spec_DrawVecAdd w hb0.out (Nat.le_refl _)).mono ?_
  rintro e w1 ⟨v, u, xs, ys, rfl, hl0, hl1, hxs, hys, ⟨A1, n1, c1, rfl, hR1⟩, ⟨A2, n2, c2, rfl, hR2⟩, hb1⟩
  clear hxs hys
  have hm1 : n1 ≤ 7 := by rw [← hR1.1]; exact hl0
  have hm2 : n2 ≤ 7 := by rw [← hR2.1]; exact hl1
  have hs1 := hb1.size
  clear hl0 hl1
  have G1 := hide hR1
  have G2 := hide hR2
  have B1 := hide hb1
  have B0 := hide (hb0.out.below hb1)
  clear hR1 hR2 hb1 hb0
  go_wp2_with fail
  refine (impl_VecAdd w1 G1.out G2.out (Nat.le_refl _) (Nat.le_refl _) (by omega) (by omega)).mono ?_
  rintro e w2 ⟨v3, rfl, hn3⟩
  obtain ⟨A3, n3, c3, rfl, hO3, hb2⟩ := newI hn3
  have hs2 := hb2.size
  have O3 := hide hO3.ri
  have B2 := hide hb2
  clear hn3 hO3 hb2
  go_wp2_with fail
  refine (impl_VecAdd w2 (G2.out.below B2.out) (G1.out.below B2.out) hs2 hs2 (by omega) (by omega)).mono ?_
  rw [vAdd_comm ys xs]
  rintro e w3 ⟨v4, rfl, hn4⟩
  obtain ⟨A4, n4, c4, rfl, hO4, hb3⟩ := newI hn4
  have hs3 := hb3.size
  have O4 := hide hO4.ri
  have B3 := hide hb3
  have BB3 := hide (B2.out.trans (hb3.mono hs2))
  clear hn4 hO4 hb3
  go_wp2_with fail
  refine (impl_VecMask w3 (G1.out.below BB3.out) (G2.out.below BB3.out) (by omega) (by omega) (by omega) (by omega)).mono ?_
  rintro e w4 ⟨v5, rfl, hn5⟩
  obtain ⟨A5, n5, c5, rfl, hO5, hb4⟩ := newI hn5
  have hs4 := hb4.size
  have O5 := hide hO5.ri
  have B4 := hide hb4
  have BB4 := hide (BB3.out.trans (hb4.mono (by omega)))
  clear hn5 hO5 hb4
  go_wp2_with fail
  refine (impl_VecRelu w4 (G1.out.below BB4.out) (by omega) (by omega)).mono ?_
  rintro e w5 ⟨v6, rfl, hn6⟩
  obtain ⟨A6, n6, c6, rfl, hO6, hb5⟩ := newI hn6
  have hs5 := hb5.size
  have L6 : n6 = (vRelu xs).length := hO6.ri.1.symm
  have BB5 := hide (BB4.out.trans (hb5.mono (by omega)))
  have R1 := hide (G1.out.below BB5.out)
  have R2 := hide (G2.out.below BB5.out)
  have R3 := hide (((O3.out.below B3.out).below (B4.out.mono hs3)).below (hb5.mono (by omega)))
  have R4 := hide ((O4.out.below B4.out).below (hb5.mono (by omega)))
  have R5 := hide (O5.out.below hb5)
  have BW := hide (B1.out.trans (BB5.out.mono hs1))
  have C0 := hide (B0.out.below ((BB5.out).mono hs1))
  have L3 : n3 = (vAdd xs ys).length := O3.out.1.symm
  have L4 : n4 = (vAdd xs ys).length := O4.out.1.symm
  have L5 : n5 = (vMask xs ys).length := O5.out.1.symm
  have L1 : n1 = xs.length := R1.out.1.symm
  have L2 : n2 = ys.length := R2.out.1.symm
  have s5 : w.heap.size ≤ w5.heap.size := by omega
  have s15 : w1.heap.size ≤ w5.heap.size := by omega
  clear hn6 hO6 hb5 B0 B1 B2 B3 B4 BB3 BB4 BB5 G1 G2 O3 O4 O5 hs1 hs2 hs3 hs4 hs5
  cases hp : pairV xs ys with
  | false =>
    obtain rfl : n3 = 0 := by rw [L3, vAdd, hp]; rfl
    obtain rfl : n4 = 0 := by rw [L4, vAdd, hp]; rfl
    obtain rfl : n5 = 0 := by rw [L5, vMask, hp]; rfl
    clear L3 L4 L5
    cases hx : okV xs with
    | false =>
      obtain rfl : n6 = 0 := by rw [L6, vRelu, hx]; rfl
      clear L6 L1 L2 hp
      go_wp2_with fail
      refine (spec_VecOk w5 R1.out (by omega)).mono ?_
      rintro e w' ⟨rfl, rfl⟩
      rw [hx]
      go_wp2_with fail
      refine (same_yes w5 R3.out R4.out (by omega)).mono ?_
      rintro e w' ⟨rfl, m0, rfl⟩
      go_wp2_with fail
      refine (spec_VecOk (w5.drewN m0) R1.out (by omega)).mono ?_
      rintro e w' ⟨rfl, rfl⟩
      rw [hx]
      go_wp2_with fail
      go_loop [12] (fun i => i = .int .i64 0) (fun _ => 0)
      case atStart => rfl
      case round =>
        subst hrel
        go_wp2_with fail
        go_ret
        exact ⟨rfl, below_drewN BW.out _⟩
    | true =>
      have hp6 : 1 ≤ n6 := by
        rw [L6, vRelu, if_pos hx, List.length_map]; exact (okV_len hx).1
      have hp7 : decide (0 < n6) = true := by simp; omega
      clear L6
      cases hy : okV ys with
      | false =>
        clear L1 L2 hp
        go_wp2_with fail
        refine (spec_VecOk w5 R1.out (by omega)).mono ?_
        rintro e w' ⟨rfl, rfl⟩
        rw [hx]
        go_wp2_with fail
        refine (spec_VecOk w5 R2.out (by omega)).mono ?_
        rintro e w' ⟨rfl, rfl⟩
        rw [hy]
        go_wp2_with fail
        refine (same_yes w5 R3.out R4.out (by omega)).mono ?_
        rintro e w' ⟨rfl, m0, rfl⟩
        go_wp2_with fail
        refine (spec_VecOk (w5.drewN m0) R1.out (by omega)).mono ?_
        rintro e w' ⟨rfl, rfl⟩
        rw [hx]
        go_wp2_with fail
        go_loop [12] (fun i => i = .int .i64 0) (fun _ => 0)
        case atStart => rfl
        case round =>
          subst hrel
          go_wp2_with fail
          go_ret
          exact ⟨rfl, below_drewN BW.out _⟩
      | true =>
        have hne : ¬ (n1 : Int) = (n2 : Int) := by
          intro he
          have : pairV xs ys = true := by rw [pairV, hx, hy]; simp; omega
          rw [hp] at this; exact absurd this (by simp)
        have hne2 : ((n1 : Int) == (n2 : Int)) = false := by simpa using hne
        clear L1 L2 hp
        go_wp2_with fail
        refine (spec_VecOk w5 R1.out (by omega)).mono ?_
        rintro e w' ⟨rfl, rfl⟩
        rw [hx]
        go_wp2_with fail
        refine (spec_VecOk w5 R2.out (by omega)).mono ?_
        rintro e w' ⟨rfl, rfl⟩
        rw [hy]
        go_wp2_with fail
        refine (same_yes w5 R3.out R4.out (by omega)).mono ?_
        rintro e w' ⟨rfl, m0, rfl⟩
        go_wp2_with fail
        refine (spec_VecOk (w5.drewN m0) R1.out (by omega)).mono ?_
        rintro e w' ⟨rfl, rfl⟩
        rw [hx]
        go_wp2_with fail
        go_loop [12] (fun i => i = .int .i64 0) (fun _ => 0)
        case atStart => rfl
        case round =>
          subst hrel
          go_wp2_with fail
          go_ret
          exact ⟨rfl, below_drewN BW.out _⟩
  | true =>
    have hpl := pairV_len hp
    have hx : okV xs = true := by simp only [pairV, Bool.and_eq_true] at hp; exact hp.1.1
    have hy : okV ys = true := by simp only [pairV, Bool.and_eq_true] at hp; exact hp.1.2
    obtain rfl : n1 = n2 := by omega
    obtain rfl : n1 = n3 := by rw [L3, vAdd, if_pos hp, zip_len _ hpl.2.2]; exact L1
    obtain rfl : n1 = n4 := by rw [L4, vAdd, if_pos hp, zip_len _ hpl.2.2]; exact L1
    obtain rfl : n1 = n5 := by rw [L5, vMask, if_pos hp, zip_len _ hpl.2.2]; exact L1
    obtain rfl : n1 = n6 := by rw [L6, vRelu, if_pos hx, List.length_map]; exact L1
    have h10 : 1 ≤ n1 := by omega
    have h11 : decide (0 < n1) = true := by simp; omega
    have Z3 := hide (show RI w5 _ A3 n1 c3 (List.zipWith fxAdd xs ys) from by have := R3.out; rwa [vAdd, if_pos hp] at this)
    have R5 := hide (show RI w5 _ A5 n1 c5 (List.zipWith maskF xs ys) from by have := R5.out; rwa [vMask, if_pos hp] at this)
    have D := hide (vDot_comm xs ys)
    have U := hide (fun i (hi : i < n1) => unitDot hx L1.symm hi)
    clear L3 L4 L5 L6 hpl
    have HP := hide hp
    have HX := hide hx
    have HY := hide hy
    have HL1 := hide L1
    have HL2 := hide L2
    clear hp hx hy L1 L2
    go_wp2_with fail
    refine (spec_VecOk w5 R1.out (by omega)).mono ?_
    rintro e w' ⟨rfl, rfl⟩
    rw [HX.out]
    go_wp2_with fail
    refine (spec_VecOk w5 R2.out (by omega)).mono ?_
    rintro e w' ⟨rfl, rfl⟩
    rw [HY.out]
    go_wp2_with fail
    refine (same_yes w5 R3.out R4.out (by omega)).mono ?_
    rintro e w' ⟨rfl, m0, rfl⟩
    go_wp2_with fail
    refine (spec_VecOk (w5.drewN m0) R1.out (by omega)).mono ?_
    rintro e w' ⟨rfl, rfl⟩
    rw [HX.out]
    go_wp2_with fail
    go_loopw [12] (fun i wr => ∃ k : Nat, k ≤ n1 ∧ i = .int .i64 (k : Int) ∧ ∃ m, wr = w5.drewN m) (fun i _ => n1 - (intOf i).toNat)
    case atStart => exact ⟨0, Nat.zero_le _, rfl, m0, rfl⟩
    case round =>
      obtain ⟨k, hk, rfl, m, rfl⟩ := hrel
      by_cases hlt : k < n1
      · clear U D C0 R4 BW
        obtain ⟨b1, o1, rfl, hbB1, hc1⟩ := R1.out.at_ hlt
        obtain ⟨b2, o2, rfl, hbB2, hc2⟩ := R2.out.at_ hlt
        obtain ⟨b3, o3, rfl, hbB3, hc3⟩ := Z3.out.at_ hlt
        obtain ⟨b5, o5, rfl, hbB5, hc5⟩ := R5.out.at_ hlt
        have h1 : (0 : Int) ≤ (k : Int) := by omega
        have h2 : (k : Int) < (n1 : Int) := by omega
        rw [zip_get fxAdd xs ys k (by rw [← HL1.out]; exact hlt) (by rw [← HL2.out]; exact hlt)] at hc3
        rw [zip_get maskF xs ys k (by rw [← HL1.out]; exact hlt) (by rw [← HL2.out]; exact hlt)] at hc5
        obtain ⟨x, hx⟩ : ∃ x, xs.getD k 0 = x := ⟨_, rfl⟩
        obtain ⟨y, hy⟩ : ∃ y, ys.getD k 0 = y := ⟨_, rfl⟩
        rw [hx] at hc1
        rw [hy] at hc2
        rw [hx, hy] at hc3 hc5
        clear hx hy R1 R2 R3 Z3 R5 HL1 HL2 HX HY HP
        by_cases hpos : 0 < x
        · rw [maskF, if_pos hpos] at hc5
          have hd1 : decide (x > 0) = true := by simpa using hpos
          have hd2 : decide (x ≤ 0) = false := by simp; omega
          have hd3 : decide (0 < x) = true := by simpa using hpos
          by_cases hy0 : y = 0
          · subst hy0
            clear hpos
            go_wp2_with fail
            go_quiet ((go_at_call 14; exact quietL2 (spec_FixAdd _ _ _)))
            go_wp2_with fail
            go_quiet (fail)
            go_wp2_with fail
            go_roundw
            case rel => exact ⟨k + 1, by omega, by go_num, _, by first | rfl | exact World.drewN_drewN ..⟩
            case measure => simp [intOf]; omega
          · have hb : (y != 0) = true := by simp [hy0]
            have hb2 : (y == 0) = false := by simp [hy0]
            clear hpos hy0
            go_wp2_with fail
            go_quiet ((go_at_call 14; exact quietL2 (spec_FixAdd _ _ _)))
            go_wp2_with fail
            go_quiet (fail)
            go_wp2_with fail
            go_roundw
            case rel => exact ⟨k + 1, by omega, by go_num, _, by first | rfl | exact World.drewN_drewN ..⟩
            case measure => simp [intOf]; omega
        · rw [maskF, if_neg hpos] at hc5
          have hd1 : decide (x > 0) = false := by simpa using hpos
          have hd3 : decide (0 < x) = false := by simpa using hpos
          clear hpos
          go_wp2_with fail
          go_quiet ((go_at_call 14; exact quietL2 (spec_FixAdd _ _ _)))
          go_wp2_with fail
          go_quiet (fail)
          go_wp2_with fail
          go_roundw
          case rel => exact ⟨k + 1, by omega, by go_num, _, by first | rfl | exact World.drewN_drewN ..⟩
          case measure => simp [intOf]; omega
      · obtain rfl : n1 = k := by omega
        clear hlt hk R3 Z3 R4 R5
        go_wp2_with fail
        refine (laws_at0 (w5.drewN m) C0.out).mono ?_
        rintro e w' ⟨x, rfl, hx0, hx1, rfl⟩
        have hq := tmod_in x n1 hx0 (by omega)
        obtain ⟨i, hi⟩ : ∃ i : Nat, x.tmod (n1 : Int) = (i : Int) := ⟨(x.tmod n1).toNat, by omega⟩
        rw [hi] at hq
        have hi2 : i < n1 := by omega
        obtain ⟨b1, o1, rfl, hbB1, hc1⟩ := R1.out.at_ hi2
        obtain ⟨w7, hrun, hown, hgr⟩ : ∃ w', (Instr.makeSlice 24 (.int .i64 (n1 : Int)) (.int .i64 (n1 : Int))).run Try.prog (w5.drewN m) = .ok (.slice (some ⟨w5.heap.size, 0, none⟩) n1 n1) w' ∧
          w'.ownsRow w5.heap.size 3 1 (.slice (some ⟨w5.heap.size, 0, none⟩) n1 n1) n1 (ivs (List.replicate n1 0)) ∧ (w5.drewN m).grownBy w' none := make_int (w5.drewN m) w5.heap.size n1 (by omega) (Nat.le_refl _)
        have hst := hown.stored i (iv 65536)
        have HO := hide hst.1
        have HG := hide hst.2
        have hdst : w7.cell? ⟨w5.heap.size, i, none⟩ = some ((ivs (List.replicate n1 0)).getD i undef) := by
          rw [hown.cellAt i (by omega)]
          have := hown.1
          rw [List.getD, List.getElem?_eq_getElem (by omega)]; rfl
        have hfr := hown.frozenAt i
        clear hst
        have h1 : (0 : Int) ≤ (i : Int) := by omega
        have h2 : (i : Int) < (n1 : Int) := by omega
        have BB := hide (show Below w5.heap.size w5 (w7.setCell ⟨w5.heap.size, i, none⟩ (.int .i64 65536)) from
          (((below_drewN (Below.refl _ _) m).grown hgr (Nat.le_refl _) (fun q hq => by simp at hq)).setCell (Nat.le_refl _) _))
        have BM := hide (BB.out.mono s15)
        have RE := hide (show RI (w7.setCell ⟨w5.heap.size, i, none⟩ (.int .i64 65536)) _ (some ⟨w5.heap.size, 0, none⟩) n1 n1 ((List.replicate n1 0).set i 65536) from
          (OI.of_own (e := 3) (by have := HO.out; rw [show (ivs (List.replicate n1 0)).set i (iv 65536) = ivs ((List.replicate n1 0).set i 65536) from by simp [ivs, List.map_set]] at this; exact this)).ri)
        obtain ⟨b', o', he, _, hc7⟩ := (R1.out.below BM.out).at_ hi2
        obtain ⟨rfl, rfl⟩ : b1 = b' ∧ o1 = o' := by simpa using he
        clear he
        clear HG hown hgr
        go_wp2_with fail
        clear hrun hdst hfr
        refine (impl_VecDot _ (R1.out.below BM.out) RE.out (by omega) (by omega)).mono ?_
        rw [(U.out i hi2).1, (U.out i hi2).2]
        rintro e w' ⟨rfl, ma, rfl⟩
        go_wp2_with fail
        refine (impl_VecDot _ (R1.out.below (below_drewN BM.out _)) (R2.out.below (below_drewN BM.out _)) (by omega) (by omega)).mono ?_
        rintro e w' ⟨rfl, mb, rfl⟩
        go_wp2_with fail
        refine (impl_VecDot _ (R2.out.below (below_drewN BM.out (ma + mb))) (R1.out.below (below_drewN BM.out (ma + mb))) (by omega) (by omega)).mono ?_
        rw [D.out.1, D.out.2]
        rintro e w' ⟨rfl, mc, rfl⟩
        clear U D RE R1 R2 HX HY HP HL1 HL2 C0
        go_wp2_with fail
        go_ret
        exact ⟨rfl, below_drewN (BW.out.trans (BB.out.mono s5)) _⟩
set_option maxRecDepth 100000 in
theorem lifted (os : Os) (started : os.Started) (H : Type) (enc : TypeId × Value → H) :
    ReturnsInHanded {} Try.checked os 3 .any (Rows.fnVectorsSpec.pre6 enc Try.prog Try.f3 Rows.fnVectorsRow.domain false) (Rows.fnVectorsSpec.post enc Try.prog Try.f3 false true false false) := by
  refine law_lifted (C := Try.checked) (f := 3) (fn := Try.f3) (tb := 4) os (by kernel_rfl) started (by kernel_rfl) Try.func3 (by kernel_rfl) (by kernel_rfl) rfl Try.underlying4 rfl (fun H ds h => ?_) H enc
    (ChangeSpec.witness6 (enc := enc) (C := Try.checked) false ⟨#[], #[.slice none 0 0], []⟩ 8 (by kernel_rfl) (by kernel_rfl) (by kernel_rfl) (by kernel_rfl)) ?_
  · rw [show Try.f3.params.size = 1 from by kernel_rfl] at h
    match ds, h with
    | [d0], _ => rfl
  intro W base args ds ps hval hA hlt
  have hval : ∀ (j : Nat) t v, Try.f3.params[j]? = some t → args[j]? = some v → Value.okWide Try.prog W .any base t v := hval
  have hA : DataW.TrodAll enc Try.prog W 0 (fun _ => true) true Try.f3.params.toList args.toList ds ps := hA
  rw [Try.params3] at hA hval
  obtain ⟨v0, vs0, d0, ds0, p0, q0, hargs, rfl, rfl, h0, r0⟩ := trodAll_cons hA
  obtain ⟨rfl, rfl, rfl⟩ := trodAll_nil r0
  obtain rfl : args = #[v0] := by cases args; simp_all
  obtain ⟨A0, n0, c0, rfl, hC0⟩ := openB Try.underlying22 Try.underlying5 cells_u8 (hval 0 22 v0 rfl rfl) h0 (fun x hx => hlt x (by simp [hx]))
  exact walk W hC0
theorem proved : Rows.FnVectorsSaid :=
  OpenClaim.holds_of_wide 3 Try.f3 rfl rfl rfl rfl rfl rfl rfl ⟨rfl, rfl, rfl, rfl, rfl⟩ rfl rfl rfl rfl rfl (by kernel_rfl) Try.func3 (by kernel_rfl)
    (of_decide_eq_true (by kernel_rfl)) (by unfold Func.isWrapper; first | (rw [if_pos (by decide +kernel)]; kernel_rfl) | (rw [if_neg (by decide +kernel)]; exact ⟨rfl, rfl⟩))
    (fun os started H enc _ => lifted os started H enc)
#print axioms proved
end Go.Proofs.Ytceeijbnhnpfgaa.fnVectors
