/-
  The contract of spec.AllCuts.
-/
import Derived.Test.YtceeijbnhnpfgaaPlainC
import Derived.Test.YtceeijbnhnpfgaaRowS
import Derived.Test.YtceeijbnhnpfgaaPushX
import Derived.Test.YtceeijbnhnpfgaaFix
import Derived.Test.YtceeijbnhnpfgaaPlainV
import Derived.WalkKit
import Derived.Deep.DeepMust
import Derived.Deep.LoopGhost
namespace Go.Proofs.Ytceeijbnhnpfgaa
open Go.RowKit

theorem OI.cellAt {e : TypeId} {w : World} {lo hi b n c i : Nat} {xs : List Int} (h : OI e w lo hi (.slice (some ⟨b, 0, none⟩) n c) xs) (hi' : i < xs.length) :
    w.cell? ⟨b, i, none⟩ = some (.int .i64 (xs.getD i 0)) ∧ w.frozen? ⟨b, i, none⟩ = false := by
  have hl : n = xs.length := h.ri.1.symm
  subst hl
  refine ⟨?_, h.1.frozenAt i⟩
  rw [h.1.cellAt i (by omega)]
  simp [ivs, List.getD, List.getElem?_eq_getElem hi']
theorem OI.put {e : TypeId} {w : World} {lo hi b n c : Nat} {xs : List Int} (h : OI e w lo hi (.slice (some ⟨b, 0, none⟩) n c) xs) (i : Nat) (y : Int) :
    OI e (w.setCell ⟨b, i, none⟩ (.int .i64 y)) lo hi (.slice (some ⟨b, 0, none⟩) n c) (xs.set i y) := by
  have hl : n = xs.length := h.ri.1.symm
  subst hl
  have := (h.1.stored i (iv y)).1
  refine ⟨?_, h.2⟩
  rw [List.length_set, show ivs (xs.set i y) = (ivs xs).set i (iv y) from by simp [ivs, List.map_set]]
  exact this
theorem OI.one {e : TypeId} {w : World} {lo hi b n c : Nat} {xs : List Int} (h : OI e w lo hi (.slice (some ⟨b, 0, none⟩) n c) xs) : OI e w b (b + 1) (.slice (some ⟨b, 0, none⟩) n c) xs := by
  obtain ⟨⟨hl, hc⟩, hhi⟩ := h
  refine ⟨⟨hl, ?_⟩, fun g hg => by simp [Value.ownBlock] at hg; omega⟩
  rcases hc with ⟨h1, _⟩ | ⟨g, cap, cur, h1, hg, r⟩
  · cases h1
  · have : g = b := by simp only [Value.slice.injEq, Option.some.injEq, Addr.mk.injEq] at h1; exact h1.1.1.symm
    exact .inr ⟨g, cap, cur, h1, by omega, r⟩
def firsts (j : Nat) : List Int := (List.range j).map fun (i : Nat) => (i : Int) + 1
theorem firsts_succ (j : Nat) : firsts (j + 1) = firsts j ++ [(j : Int) + 1] := by simp [firsts, List.range_succ]
theorem firsts_len (j : Nat) : (firsts j).length = j := by simp [firsts]
/-- the row on its way to the next one: the places from q to i - 1 are done -/
def nowAt (now : List Int) (q i : Nat) : List Int := (now.take q ++ (List.range (i - q)).map fun (j : Nat) => now.getD q 0 + 1 + (j : Int)) ++ now.drop i
theorem nowAt_len {now : List Int} {q i : Nat} (hq : q ≤ i) (hi : i ≤ now.length) : (nowAt now q i).length = now.length := by
  simp only [nowAt, List.length_append, List.length_take, List.length_map, List.length_range, List.length_drop]; omega
theorem nowAt_start {now : List Int} {q : Nat} (hq : q < now.length) : now.set q (now.getD q 0 + 1) = nowAt now q (q + 1) := by
  apply List.ext_getElem
  · rw [List.length_set, nowAt_len (by omega) (by omega)]
  · intro j h1 h2
    simp only [List.length_set] at h1
    simp only [nowAt, show q + 1 - q = 1 by omega, List.range_one, List.map_cons, List.map_nil, List.append_assoc]
    by_cases hj : j < q
    · rw [List.getElem_set_ne (by omega), List.getElem_append_left (by rw [List.length_take]; omega), List.getElem_take]
    · by_cases hjq : j = q
      · subst hjq
        rw [List.getElem_set_self, List.getElem_append_right (by rw [List.length_take]; omega)]
        simp [List.length_take, Nat.min_eq_left (Nat.le_of_lt hq)]
      · rw [List.getElem_set_ne (by omega), List.getElem_append_right (by rw [List.length_take]; omega), List.getElem_append_right (by simp [List.length_take]; omega), List.getElem_drop]
        congr 1
        simp [List.length_take]; omega
theorem nowAt_prev {now : List Int} {q i : Nat} (hq : q < i) (hi : i ≤ now.length) : (nowAt now q i).getD (i - 1) 0 = now.getD q 0 + ((i - q : Nat) : Int) := by
  have hl : (now.take q).length = q := by rw [List.length_take]; omega
  rw [nowAt, List.getD, List.getElem?_append_left (by simp [List.length_take]; omega), List.getElem?_append_right (by omega), hl, List.getElem?_map, List.getElem?_range (by omega)]
  simp; omega
theorem nowAt_set {now : List Int} {q i : Nat} (hq : q < i) (hi : i < now.length) : (nowAt now q i).set i (now.getD q 0 + ((i - q : Nat) : Int) + 1) = nowAt now q (i + 1) := by
  have hl : ((now.take q ++ (List.range (i - q)).map fun (j : Nat) => now.getD q 0 + 1 + (j : Int))).length = i := by simp [List.length_take]; omega
  rw [nowAt, List.set_append_right _ _ (by omega), hl, Nat.sub_self, List.drop_eq_getElem_cons hi, List.set_cons_zero, nowAt, show i + 1 - q = (i - q) + 1 by omega, List.range_succ, List.map_append]
  simp; omega
theorem nowAt_all {now : List Int} {q : Nat} : nowAt now q now.length = nextRow now q := by simp [nowAt, nextRow]

set_option maxHeartbeats 2000000 in
theorem spec_AllCuts (ops st : Int) (w : World) :
    Calls Try.prog 27 #[.int .i64 ops, .int .i64 st] w fun e w' => ∃ A c, e = .returned (.slice A (cuts ops st).length c) ∧ OwRows w' w.heap.size w'.heap.size (.slice A (cuts ops st).length c) (cuts ops st).length ((cuts ops st).flatMap rowF) ∧ Below w.heap.size w w' := by
  have HEM := hide (OL.empty 3 52 1 w)
  have HB1 := hide (show Below w.heap.size w (w.alloc (.cells #[] 52)) from (Below.refl _ _).alloc (Nat.le_refl _) _)
  by_cases hok : okCut ops st = true
  case neg =>
    have hc := okCut_no hok
    rw [cuts_no hok]
    have hc : (ops < 1 ∨ 8 < ops) ∨ (1 ≤ ops ∧ ops ≤ 8 ∧ (st < 1 ∨ ops < st)) := by omega
    clear hok
    rcases hc with h1 | ⟨h1, h2, h3⟩
    · have H1 := hide (spec_l1In_no ops 1 8 (w.alloc (.cells #[] 52)) h1)
      clear h1
      go_enter Try.func27, Try.ntmps27
      go_wp2_with fail
      refine H1.out.mono ?_
      rintro e w' ⟨rfl, rfl⟩
      go_wp2_with fail
      go_ret
      exact ⟨_, 0, rfl, by simpa using HEM.out, HB1.out⟩
    · have H1 := hide (spec_l1In_yes ops 1 8 (w.alloc (.cells #[] 52)) h1 h2)
      have H2 := hide (spec_l1In_no st 1 ops (w.alloc (.cells #[] 52)) h3)
      clear h1 h2 h3
      go_enter Try.func27, Try.ntmps27
      go_wp2_with fail
      refine H1.out.mono ?_
      rintro e w' ⟨rfl, rfl⟩
      go_wp2_with fail
      refine H2.out.mono ?_
      rintro e w' ⟨rfl, rfl⟩
      go_wp2_with fail
      go_ret
      exact ⟨_, 0, rfl, by simpa using HEM.out, HB1.out⟩
  obtain ⟨N, K, rfl, rfl, hK1, hKN, hN8⟩ := okCut_spec hok
  have hcut := cuts_yes N K hK1 hKN hN8
  obtain ⟨cu, hcu⟩ : ∃ cu, cuts (N : Int) (K : Int) = cu := ⟨_, rfl⟩
  rw [hcu] at hcut ⊢
  have HCUT := hide hcut
  clear hcu hcut
  have H1 := hide (spec_l1In_yes (N : Int) 1 8 (w.alloc (.cells #[] 52)) (by omega) (by omega))
  have H2 := hide (spec_l1In_yes (K : Int) 1 (N : Int) (w.alloc (.cells #[] 52)) (by omega) (by omega))
  have HOWN := hide (show (w.alloc (.cells #[] 52)).ownsRow w.heap.size 52 1 (.slice (some ⟨w.heap.size, 0, none⟩) 0 0) 0 [] from World.ownsRow_lit w #[] 0 (Nat.le_refl _) (by decide) (by simp))
  obtain ⟨w1, hw1⟩ : ∃ w1, w1 = w.alloc (.cells #[] 52) := ⟨_, rfl⟩
  have hs1 : w1.heap.size = w.heap.size + 1 := by rw [hw1]; simp
  rw [← hw1] at H1 H2 HB1 HEM HOWN
  have HNOW := hide (World.ownsRow_lit (base := w1.heap.size) (e := 3) (size := 1) w1 #[] 0 (Nat.le_refl _) (by decide) (by simp))
  have HBN := hide (show Below w1.heap.size w1 (w1.alloc (.cells #[] 3)) from (Below.refl _ _).alloc (Nat.le_refl _) _)
  have HS1 := hide hs1
  clear hok hs1
  go_enter Try.func27, Try.ntmps27
  go_wp2_with fail
  rw [← hw1]
  have HW1 := hide hw1
  clear hw1
  refine H1.out.mono ?_
  rintro e w' ⟨rfl, rfl⟩
  go_wp2_with fail
  refine H2.out.mono ?_
  rintro e w' ⟨rfl, rfl⟩
  go_wp2_with fail
  go_loopw [6, 7] (fun v i wr => ∃ j : Nat, j < K ∧ i = .int .i64 ((j : Int) + 1) ∧ (∃ A n c, v = .slice A n c ∧ OwI wr w1.heap.size wr.heap.size (.slice A n c) (firsts j)) ∧ Below w1.heap.size w1 wr)
    (fun _ i _ => K - (intOf i).toNat)
  case atStart => exact ⟨0, by omega, rfl, ⟨_, _, _, rfl, OI.of_own (n := 0) (xs := firsts 0) (by rw [show ivs (firsts 0) = [] from rfl]; exact HNOW.out)⟩, HBN.out⟩
  case round =>
    rename World => W2
    obtain ⟨j, hj, rfl, ⟨A, n, c, rfl, hown⟩, hb⟩ := hrel
    have hsz := hb.size
    by_cases hlt : j + 1 < K
    · have HO := hide hown
      have hln : (firsts j).length < 1073741824 := by rw [firsts_len]; omega
      clear hown
      go_wp2_with (at_builtin; go_must (refine wpList_pushI (xs := firsts j) W2 ((j : Int) + 1) rfl (.tmp 27) (.tmp 29) _ rfl 3 _ Try.underlying24 int_info rfl rfl HO.out rfl hsz hln ?_); intro A5 n5 c5 w5 hO5 ho5; have H5 := hide hO5; have HO5 := hide ho5; clear hO5 ho5)
      go_roundw
      case rel => exact ⟨j + 1, hlt, by go_num, ⟨_, _, _, rfl, by rw [firsts_succ]; exact H5.out⟩, hb.trans (HO5.out.below hsz (fun q h1 h3 => by have := (HO.out.1.lt q h3).1; omega))⟩
      case measure => simp [intOf]; omega
    have hjK : j = K - 1 := by omega
    have hnj : n = j := by rw [← hown.ri.1, firsts_len]
    obtain ⟨all, hall⟩ : ∃ all, all = cAll N K := ⟨_, rfl⟩
    have HALL := hide hall
    have hfirst := cAll_first hN8 hK1 hKN
    rw [← hall] at hfirst
    have hf0 : firsts j = all.getD 0 [] := by rw [hfirst.2, hjK]; rfl
    obtain ⟨L, hL⟩ : ∃ L, L = all.length := ⟨_, rfl⟩
    have hL70 : L ≤ 70 := by rw [hL, hall]; exact cAll_len hN8 hK1 hKN
    have hL0 : 0 < L := by rw [hL]; exact hfirst.1
    have HL := hide hL
    have HCA := hide (show cu = all from by rw [HCUT.out, hall]; rfl)
    have HROW := hide (fun t (ht : t < L) => by have := cAll_row hN8 hK1 hKN (t := t) (by rw [← hall, ← hL]; exact ht); rwa [← hall] at this : ∀ t, t < L → (all.getD t []).length = K - 1 ∧ ∀ x ∈ all.getD t [], 1 ≤ x ∧ x ≤ 8)
    have HLAST := hide (fun t (ht : t < L) (hp : pivot N (all.getD t []) (K - 1) = none) => by have := cAll_last hN8 hK1 hKN (t := t) (by rw [← hall, ← hL]; exact ht) (by rw [← hall]; exact hp); rwa [← hall, ← hL] at this : ∀ t, t < L → pivot N (all.getD t []) (K - 1) = none → t + 1 = L)
    have HNEXT := hide (fun t k (ht : t < L) (hp : pivot N (all.getD t []) (K - 1) = some k) => by have := cAll_next hN8 hK1 hKN (t := t) (by rw [← hall, ← hL]; exact ht) (by rw [← hall]; exact hp); rwa [← hall, ← hL] at this : ∀ t k, t < L → pivot N (all.getD t []) (K - 1) = some k → t + 1 < L ∧ all.getD (t + 1) [] = nextRow (all.getD t []) k)
    have HTAKE := hide (fun t (ht : t < L) => take_one all t (by rw [← hL]; exact ht) [] : ∀ t, t < L → all.take (t + 1) = all.take t ++ [all.getD t []])
    have hs1 := HS1.out
    have hs2 : w.heap.size < W2.heap.size := by omega
    have HB2 := hide ((HB1.out.trans (hb.mono (by omega))) : Below w.heap.size w W2)
    have HOW2 := hide (ownsB HOWN.out hb)
    rw [hf0] at hown
    clear hfirst hall hL hf0 hb hs1
    by_cases hK : K = 1
    · subst hK
      obtain rfl : j = 0 := by omega
      have h0 : all.getD 0 [] = [] := List.eq_nil_of_length_eq_zero (HROW.out 0 hL0).1
      have hL1 := HLAST.out 0 hL0 rfl
      rw [h0] at hown
      have hn0 : n = 0 := hnj
      have HT := hide (show (all.flatMap rowF) = [.s []] from by
        have h1 := HTAKE.out 0 hL0
        rw [h0] at h1
        have h2 : all.take (0 + 1) = all := List.take_of_length_le (by rw [← HL.out]; omega)
        rw [h2] at h1
        rw [h1]; rfl)
      have HLL := hide (show cu.length = 1 from by rw [HCA.out, ← HL.out, ← hL1])
      have HR := hide hown.ri
      have hs2' : w1.heap.size ≤ W2.heap.size := hsz
      clear hnj hlt hj hjK hL1 h0 hown
      subst hn0
      go_wp2_with fail
      go_loopw [5] (fun v wr => ∃ A0 c0, v = .slice A0 0 c0 ∧ OwRows wr w.heap.size W2.heap.size (.slice A0 0 c0) 0 [] ∧ wr = W2) (fun _ _ => 0)
      case atStart => exact ⟨_, _, rfl, (OLx.of_empty (g := W2.heap.size) HOW2.out (fun k hk => by simp [Value.ownBlock] at hk; omega) (by simp [Value.ownBlock]; omega)).ol, rfl⟩
      case round =>
        rename World => wq
        obtain ⟨A0, c0, rfl, hol, rfl⟩ := hrel
        have HOL := hide hol
        clear hol
        have gate0 : True := trivial
        go_wp2_with (first
          | (at_builtin; clear gate0; go_must (refine wpList_copy wq rfl (.tmp 32) (.tmp 33) _ rfl 3 _ Try.underlying24 int_info rfl rfl rfl HR.out (Nat.le_refl _) (Nat.zero_le _) ?_); go_must (intro A4 n4 c4 w4 hO4 hb4); go_must (have H4 := hide hO4); go_must (have hs4 := hb4.size); go_must (have HX4 := hide (HOL.out.below hb4)); go_must (have HB4 := hide hb4); go_must (clear hO4 hb4))
          | (at_builtin; go_must (refine wpList_pushL (lo := w.heap.size) (mid := wq.heap.size) (fs := []) w4 [.slice A4 n4 c4] [.s []] rfl (.tmp 31) (.tmp 36) _ rfl 3 52 1 24 _ Try.underlying49 row_info rfl Nat.one_pos (Nat.le_of_ble_eq_true rfl) rfl HX4.out (FOs.one (FO.of_oi H4.out)) rfl rfl (Nat.le_of_lt hs2) hs4 (Nat.le_of_ble_eq_true rfl) ?_); intro A5 c5 w5 hO5 ho5 _; have H5 := hide hO5; have HO5 := hide ho5; have hs5 := ho5.size; clear hO5 ho5))
        go_loop [8] (fun k => k = .int .i64 (-1)) (fun _ => 0)
        case atStart => first | rfl | go_num
        case round =>
          subst hrel
          go_wp2_with fail
          go_ret
          rw [HLL.out, HCA.out, HT.out]
          exact ⟨_, _, rfl, by simpa using H5.out, (HB2.out.trans (HB4.out.mono (Nat.le_of_lt hs2))).trans (HO5.out.below (by omega) (fun k h1 h3 => by have := (HOL.out.lt k h3).1; omega))⟩
    obtain ⟨m, rfl⟩ : ∃ m, j = m + 1 := ⟨j - 1, by omega⟩
    obtain ⟨g, rfl⟩ : ∃ g, A = some ⟨g, 0, none⟩ := by
      rcases hown.1.2 with ⟨h1, _⟩ | ⟨g, cap, cur, h1, _⟩
      · simp only [Value.slice.injEq] at h1; omega
      · simp only [Value.slice.injEq] at h1; exact ⟨g, h1.1⟩
    have hg1 : w1.heap.size ≤ g := (hown.1.lt g rfl).1
    have hg2 : g < W2.heap.size := (hown.1.lt g rfl).2
    have hgw : w.heap.size < g := by have := HS1.out; omega
    have HNO := hide hown.one
    have HOX := hide (OLx.of_empty (e := 3) (g := g) (hi := W2.heap.size) HOW2.out (fun k hk => by simp [Value.ownBlock] at hk; omega) (by simp [Value.ownBlock]; omega))
    have hKm : K - 1 = m + 1 := by omega
    have hKle : K ≤ m + 1 + 1 := by omega
    rw [hKm] at HROW HLAST HNEXT
    have hn9 : n ≤ 8 := by omega
    have HD := hide hjK
    have HM := hide hKm
    have HNJ := hide hnj
    subst hnj
    clear hown hjK hKm hK hlt hj
    go_wp2_with fail
    go_loopg [5] L (fun q v wr => ∃ t, t < L ∧ Hid (q + t = L) ∧ (∃ A' c', v = .slice A' t c' ∧ OLx 3 52 1 wr w.heap.size wr.heap.size g (.slice A' t c') t ((all.take t).flatMap rowF)) ∧ OwI wr g (g + 1) (.slice (some ⟨g, 0, none⟩) (m + 1) c) (all.getD t []) ∧ g < wr.heap.size ∧ Below w.heap.size w wr)
    case atStart => exact ⟨0, hL0, hide (by omega), ⟨_, _, rfl, by simpa using HOX.out⟩, HNO.out, hg2, HB2.out⟩
    case round =>
      rename World => wq
      obtain ⟨t, ht, hq, ⟨A', c', rfl, hox⟩, hno, hgq, hbq⟩ := hrel
      have hwq : w.heap.size ≤ wq.heap.size := hbq.size
      obtain ⟨now, hnow⟩ : ∃ now, now = all.getD t [] := ⟨_, rfl⟩
      have hrow := HROW.out t ht
      rw [← hnow] at hrow hno
      have HX := hide hox
      have HNO := hide hno
      have HR := hide hno.ri
      have HNOW := hide hnow
      have HBQ := hide hbq
      have hnl : now.length ≤ 8 := by omega
      have HNL := hide hrow.1
      have HNA := hide hrow.2
      have hm8 : m + 1 ≤ 1048576 := by omega
      have hgq1 : g + 1 ≤ wq.heap.size := hgq
      have hwg : w.heap.size ≤ wq.heap.size := hwq
      have ht2 : t < 1073741824 := by omega
      clear hox hno hnow hbq hrow
      have gate0 : True := trivial
      go_wp2_with (first
        | (at_builtin; clear gate0; go_must (refine wpList_copy wq rfl (.tmp 32) (.tmp 33) _ rfl 3 _ Try.underlying24 int_info rfl rfl rfl HR.out hgq1 hm8 ?_); intro A4 n4 c4 w4 hO4 hb4; have H4 := hide hO4; have hs4 := hb4.size; have HX4 := hide (HX.out.below hb4); have HN4 := hide (HNO.out.below hb4); have HB4 := hide hb4; clear hO4 hb4)
        | (at_builtin; go_must (refine wpList_pushX (g := g) w4 [.slice A4 n4 c4] [.s now] rfl (.tmp 31) (.tmp 36) _ rfl 3 52 1 24 _ Try.underlying49 row_info rfl Nat.one_pos (Nat.le_of_ble_eq_true rfl) rfl HX4.out (FOs.one (FO.of_oi H4.out)) rfl rfl hwq hs4 ht2 hgq ?_); intro A5 c5 w5 hO5 ho5; have H5 := hide hO5; have HO5 := hide ho5; have hs5 := ho5.size; clear hO5 ho5))
      have hvg : (Value.slice A' t c').ownBlock ≠ some g := by obtain ⟨_, _, _, _, h, _⟩ := HX.out; exact h
      have HN5 := hide (HN4.out.only HO5.out (fun k h1 h2 h3 => hvg (by have h4 : (Value.slice A' t c').ownBlock = some k := h3; rw [h4]; congr 1; omega)))
      have HB5 := hide ((HBQ.out.trans (HB4.out.mono hwq)).trans (HO5.out.below (by omega) (fun k h1 h3 => by have := (HX.out.ol.lt k h3).1; omega)))
      have hg5 : g < w5.heap.size := by omega
      have hw5 : w.heap.size ≤ w5.heap.size := by omega
      have HX5 := hide (show OLx 3 52 1 w5 w.heap.size w5.heap.size g (.slice A5 (t + 1) c5) (t + 1) ((all.take (t + 1)).flatMap rowF) from by
        rw [HTAKE.out t ht, ← HNOW.out, List.flatMap_append]; simpa [rowF] using H5.out)
      clear HX HX4 HN4 HB4 HBQ H4 H5 HO5 HR HNO hvg hs4 hs5 hwq hwg hgq hgq1
      have hgt1 : (t : Int) + 1 ≤ 100 := by omega
      go_loop [8] (fun k => (k = .int .i64 (-1) ∧ Hid (pivot N now (m + 1) = none)) ∨ (∃ q : Nat, q ≤ m ∧ k = .int .i64 (q : Int) ∧ Hid (pivot N now (q + 1) = pivot N now (m + 1)))) (fun k => (intOf k + 1).toNat)
      case atStart => exact .inr ⟨m, Nat.le_refl _, by go_num, rfl⟩
      case round =>
        rcases hrel with ⟨rfl, hp⟩ | ⟨q, hqm, rfl, hp⟩
        · have HE := hide (HLAST.out t ht (by rw [← HNOW.out]; exact hp.out))
          go_wp2_with fail
          go_ret
          rw [HCA.out, ← HL.out, ← HE.out]
          refine ⟨_, _, rfl, ?_, HB5.out⟩
          have := HX5.out.ol
          rwa [HE.out, HL.out, List.take_length, ← HL.out, ← HE.out] at this
        obtain ⟨hc, hf⟩ := HN5.out.cellAt (i := q) (by rw [HNL.out]; omega)
        obtain ⟨x, hx⟩ : ∃ x, now.getD q 0 = x := ⟨_, rfl⟩
        have hxb : 1 ≤ x ∧ x ≤ 8 := by
          rw [← hx, List.getD, List.getElem?_eq_getElem (by rw [HNL.out]; omega)]
          exact HNA.out _ (List.getElem_mem _)
        rw [hx] at hc
        have h1 : (0 : Int) ≤ (q : Int) := by omega
        have h2 : (q : Int) < (m : Int) + 1 := by omega
        have h3 : (m : Int) ≤ 8 := by omega
        by_cases heq : x = (N : Int) - ((m : Int) + 1) + (q : Int)
        · have hb : (x == (N : Int) - ((m : Int) + 1) + (q : Int)) = true := by simp [heq]
          have HP := hide (show pivot N now q = pivot N now (m + 1) from (pivot_step (by rw [hx, HNL.out, heq]; omega)).symm.trans hp.out)
          have HXX := hide hx
          clear heq hx hp
          go_wp2_with fail
          go_round
          case rel =>
            cases q with
            | zero => exact .inl ⟨by first | rfl | (simp; done) | go_num, hide (HP.out.symm.trans rfl)⟩
            | succ q => exact .inr ⟨q, by omega, by go_num, HP.out⟩
          case measure => simp [intOf]
        have hb : (x == (N : Int) - ((m : Int) + 1) + (q : Int)) = false := by simpa using heq
        have HP := hide (HNEXT.out t q ht (by rw [← HNOW.out, ← hp.out]; exact pivot_stop (by rw [hx, HNL.out]; intro h; apply heq; omega)))
        have HXX := hide hx
        have HS := hide (HN5.out.put q (x + 1))
        have HG6 := hide (Only.set (Only.refl (fun k => k = g) w5) g q rfl (.int .i64 (x + 1)))
        clear heq hx hp
        go_wp2_with fail
        go_loopw [9] (fun i wz => ∃ p : Nat, q < p ∧ p ≤ m + 1 ∧ i = .int .i64 (p : Int) ∧ OwI wz g (g + 1) (.slice (some ⟨g, 0, none⟩) (m + 1) c) (nowAt now q p) ∧ Only (fun k => k = g) w5 wz)
          (fun i _ => m + 1 - (intOf i).toNat)
        case atStart => exact ⟨q + 1, by omega, by omega, by go_num, by have := HS.out; rwa [show now.set q (x + 1) = nowAt now q (q + 1) from by rw [← HXX.out]; exact nowAt_start (by rw [HNL.out]; omega)] at this, HG6.out⟩
        case round =>
          rename World => wz
          obtain ⟨p, hp1, hp2, rfl, hni, hoz⟩ := hrel
          by_cases hpm : p ≤ m
          · obtain ⟨p', rfl⟩ : ∃ p', p = p' + 1 := ⟨p - 1, by omega⟩
            obtain ⟨hd, hfz⟩ := hni.cellAt (i := p' + 1) (by rw [nowAt_len (by omega) (by rw [HNL.out]; omega), HNL.out]; omega)
            obtain ⟨hc', _⟩ := hni.cellAt (i := p') (by rw [nowAt_len (by omega) (by rw [HNL.out]; omega), HNL.out]; omega)
            have hy := nowAt_prev (now := now) (q := q) (i := p' + 1) (by omega) (by rw [HNL.out]; omega)
            rw [Nat.add_sub_cancel] at hy
            rw [hy, HXX.out] at hc'
            obtain ⟨y, hyy⟩ : ∃ y, x + ((p' + 1 - q : Nat) : Int) = y := ⟨_, rfl⟩
            rw [hyy] at hc'
            have hyb : 1 ≤ y ∧ y ≤ 100 := by omega
            have h4 : (0 : Int) ≤ (p' : Int) := by omega
            have h5 : (p' : Int) < (m : Int) + 1 := by omega
            have h6 : (p' : Int) + 1 < (m : Int) + 1 := by omega
            have h7 : (p' : Int) ≤ 8 := by omega
            have HY := hide hyy
            have HP2 := hide (hni.put (p' + 1) (y + 1))
            have HO := hide (hoz.set g (p' + 1) rfl (.int .i64 (y + 1)))
            clear hy hyy hni hoz
            go_wp2_with fail
            go_roundw
            case rel => exact ⟨p' + 1 + 1, by omega, by omega, by go_num, by have := HP2.out; rwa [show (nowAt now q (p' + 1)).set (p' + 1) (y + 1) = nowAt now q (p' + 1 + 1) from by rw [← HY.out, ← HXX.out]; exact nowAt_set (by omega) (by rw [HNL.out]; omega)] at this, HO.out⟩
            case measure => simp [intOf]; omega
          · obtain rfl : p = m + 1 := by omega
            have HNI := hide hni
            have HOZ := hide hoz
            have hsz := hoz.size
            clear hni hoz
            go_wp2_with fail
            go_roundg (gk - 1)
            case measure => have := hq.out; have := HP.out.1; omega
            case rel =>
              refine ⟨t + 1, HP.out.1, hide (by have := hq.out; have := HP.out.1; omega), ⟨_, _, rfl, (HX5.out.onlyG HOZ.out).more hsz⟩, ?_, by omega, HB5.out.trans (HOZ.out.below hw5 (fun k h1 h3 => by have h4 : k = g := h3; omega))⟩
              have := HNI.out
              rwa [← HNL.out, nowAt_all, HNL.out, HNOW.out, ← HP.out.2] at this
end Go.Proofs.Ytceeijbnhnpfgaa
