/-
  The contracts of the functions on slices of numbers that the laws lean on: copy, compare, mark.
-/
import Derived.Test.YtehfglfbnjdcoaaProg
import Derived.Test.YtehfglfbnjdcoaaOwn
import Derived.WalkKit
import Derived.Deep.QuietTactic
import Derived.BigQuiet
namespace Go.Proofs.Ytehfglfbnjdcoaa
open Go.RowKit
set_option maxRecDepth 100000

theorem int_info : (Try.prog.info? 3).map (fun i => (i.zero, i.size, i.bytes)) = some (some (.int .i64 0), 1, 8) := by kernel_rfl
abbrev NI := NewI 3
abbrev OwI := OI 3

theorem laws_toIntS {B n c : Nat} {A : Option Addr} {xs : List Int} (w : World) (h : RI w B A n c xs) (hB : B ≤ w.heap.size) (hn : n ≤ 1048576) :
    Calls Try.prog 30 #[.slice A n c] w (Gives (NI w xs)) := by
  have hmk := fun W' : World => run_make_row' (P := Try.prog) 25 3 _ _ Try.underlying25 int_info rfl .i64 .i64 n (by omega) (by omega) W'
  have hlen := hide h.1
  go_enter Try.func30, Try.ntmps30
  go_wp2
  go_loopw [4] (fun i wr => ∃ k : Nat, k ≤ n ∧ i = .int .i64 (k : Int) ∧ wr.ownsRow w.heap.size 3 1 (.slice (some ⟨w.heap.size, 0, none⟩) n n) n (ivs (xs.take k ++ List.replicate (n - k) 0)) ∧ Below w.heap.size w wr)
    (fun i _ => n - (intOf i).toNat)
  case atStart => exact ⟨0, Nat.zero_le _, rfl, by
      have := World.ownsRow_lit (base := w.heap.size) (e := 3) (size := 1) w (madeCells #[.int .i64 0] n) n (Nat.le_refl _) (by simp only [maxLen]; omega) (by simp [madeCells])
      rw [toList_madeCells_one] at this
      simpa [ivs] using this, (Below.refl _ _).alloc (Nat.le_refl _) _⟩
  case round =>
    obtain ⟨k, hk, rfl, hown, hb⟩ := hrel
    by_cases hlt : k < n
    · obtain ⟨b, off, rfl, hbB, hc⟩ := h.at_ hlt
      have hst := hide (hown.stored k (iv (xs.getD k 0))).1
      obtain ⟨x, hx⟩ : ∃ x, x = xs.getD k 0 := ⟨_, rfl⟩
      rw [← hx] at hc hst
      have HX := hide hx
      have hcell : wr.cell? ⟨b, off + k, none⟩ = some (.int .i64 x) := (hb.cell (show (⟨b, off + k, none⟩ : Addr).block < w.heap.size from by simp; omega)).trans hc
      have hdst : wr.cell? ⟨w.heap.size, k, none⟩ = some ((ivs (xs.take k ++ List.replicate (n - k) 0)).getD k undef) := by
        rw [hown.cellAt k (by omega)]
        have := hown.1
        rw [List.getD, List.getElem?_eq_getElem (by omega)]; rfl
      have hfr := hown.frozenAt k
      have HO := hide hown
      clear hx hc h hown
      go_wp2
      go_roundw
      case rel => exact ⟨k + 1, by omega, by go_num, by have := hst.out; rw [HX.out, set_take xs k n hlen.out hlt] at this; rw [HX.out]; exact this, hb.setCell (by simp) _⟩
      case measure => simp [intOf]; omega
    · have hO := hide hown
      clear hown
      go_wp2
      go_ret
      exact ⟨_, rfl, OI.of_own (by have := hO.out; rw [take_all xs n k hlen.out (by omega)] at this; exact this), hb⟩

/-- a call that only reads: it hands back v -/
def Quiet (v : Value) (w : World) (e : Ending) (w' : World) : Prop := e = .returned v ∧ ∃ m, w' = w.drewN m
theorem Quiet.below {v : Value} {w : World} {e : Ending} {w' : World} (h : Quiet v w e w') : e = .returned v ∧ Below w.heap.size w w' := by
  obtain ⟨he, m, rfl⟩ := h
  exact ⟨he, below_drewN (Below.refl _ _) m⟩
theorem drewN_zero' (w : World) : w = w.drewN 0 := rfl

theorem eq_upto_all {xs ys : List Int} {n : Nat} (hx : xs.length = n) (hy : ys.length = n) (h : ∀ j, j < n → xs.getD j 0 = ys.getD j 0) : decide (xs = ys) = true := by
  rw [decide_eq_true_eq]
  apply List.ext_getElem (by omega)
  intro j h1 h2
  have := h j (by omega)
  simpa [List.getD, List.getElem?_eq_getElem h1, List.getElem?_eq_getElem h2] using this
theorem eq_upto_no {xs ys : List Int} {j : Nat} (h : xs.getD j 0 ≠ ys.getD j 0) : decide (xs = ys) = false := by
  rw [decide_eq_false_iff_not]; rintro rfl; exact h rfl

theorem laws_eqIntS {B n c B' n' c' : Nat} {A A' : Option Addr} {xs ys : List Int} (w : World) (h : RI w B A n c xs) (h' : RI w B' A' n' c' ys) (hn : n ≤ 1048576) (hn' : n' ≤ 1048576) :
    Calls Try.prog 32 #[.slice A n c, .slice A' n' c'] w (Quiet (.bool (decide (xs = ys))) w) := by
  have hl := hide h.1
  have hl' := hide h'.1
  by_cases hne : n = n'
  · subst hne
    go_enter Try.func32, Try.ntmps32
    go_wp2
    go_loopw [5] (fun i wr => ∃ k : Nat, k ≤ n ∧ i = .int .i64 (k : Int) ∧ Hid (∀ j, j < k → xs.getD j 0 = ys.getD j 0) ∧ ∃ m, wr = w.drewN m)
      (fun i _ => n - (intOf i).toNat)
    case atStart => exact ⟨0, Nat.zero_le _, rfl, fun j hj => absurd hj (by omega), 0, rfl⟩
    case round =>
      obtain ⟨k, hk, rfl, heq, m, rfl⟩ := hrel
      by_cases hlt : k < n
      · obtain ⟨b, off, rfl, hbB, hc⟩ := h.at_ hlt
        obtain ⟨b', off', rfl, hbB', hc'⟩ := h'.at_ hlt
        have h1 : (0 : Int) ≤ (k : Int) := by omega
        have h2 : (k : Int) < (n : Int) := by omega
        obtain ⟨x, hx⟩ : ∃ x, x = xs.getD k 0 := ⟨_, rfl⟩
        obtain ⟨y, hy⟩ : ∃ y, y = ys.getD k 0 := ⟨_, rfl⟩
        rw [← hx] at hc
        rw [← hy] at hc'
        have HX := hide hx
        have HY := hide hy
        clear hx hy h h'
        by_cases hxy : x = y
        · have hb : (x != y) = false := by simp [hxy]
          have HXY := hide hxy
          clear hxy
          go_wp2
          go_quiet (fail)
          go_wp2
          go_roundw
          case rel => exact ⟨k + 1, by omega, by go_num, fun j hj => by
            by_cases hjk : j < k
            · exact heq.out j hjk
            · obtain rfl : j = k := by omega
              rw [← HX.out, ← HY.out]; exact HXY.out, _, rfl⟩
          case measure => simp [intOf]; omega
        · have hb : (x != y) = true := by simp [hxy]
          have HXY := hide hxy
          clear hxy
          go_wp2
          go_quiet (fail)
          go_wp2
          go_ret
          exact ⟨rB (eq_upto_no (by rw [← HX.out, ← HY.out]; exact HXY.out)).symm, m + nq, by first | rfl | rw [World.drewN_drewN]⟩
      · obtain rfl : k = n := by omega
        go_wp2
        go_ret
        exact ⟨rB (eq_upto_all hl.out hl'.out heq.out).symm, _, rfl⟩
  · have hd : decide (xs = ys) = false := by
      rw [decide_eq_false_iff_not]; rintro rfl; exact hne (h.1.symm.trans h'.1)
    have hb : ((n : Int) != (n' : Int)) = true := by simp; omega
    have HD := hide hd
    clear hd hne
    go_enter Try.func32, Try.ntmps32
    go_wp2
    go_ret
    exact ⟨rB HD.out.symm, 0, rfl⟩

theorem marks_step (xs : List Int) (k : Int) (j n : Nat) (hn : xs.length = n) (hj : j < n) :
    (ivs (marks k j ++ xs.drop j)).set j (iv (k + j)) = ivs (marks k (j + 1) ++ xs.drop (j + 1)) := by
  simp only [ivs, iv]
  rw [← List.map_set]
  congr 1
  have h1 : (marks k j).length = j := marks_len j k
  rw [List.set_append_right _ _ (by omega), h1, Nat.sub_self, marks_snoc, List.append_assoc, List.drop_eq_getElem_cons (by omega), List.set_cons_zero]
  simp
/-- marks, whatever the numbers were: the block of v alone has turned -/
theorem laws_markIntS {lo hi : Nat} {v : Value} {xs : List Int} (k : Int) (w : World) (h : OwI w lo hi v xs) (hn : xs.length ≤ 1048576) (hk0 : 0 ≤ k) (hk1 : k ≤ 1000000000000) :
    Calls Try.prog 35 #[v, .int .i64 k] w fun e w' => e = .returned (.int .i64 (k + xs.length)) ∧ OwI w' lo hi v (marks k xs.length) ∧ Only (fun b => v.ownBlock = some b) w w' := by
  obtain ⟨ho, hhi⟩ := h
  rcases ho.2 with ⟨rfl, h0⟩ | ⟨g, cap, cur, rfl, hg, hh, hc, hm, hs, ht⟩
  · have hxs : xs = [] := List.eq_nil_of_length_eq_zero h0
    subst hxs
    clear ho h0
    go_enter Try.func35, Try.ntmps35
    go_wp2
    go_loop [1, 5] (fun q i => i = .int .i64 0 ∧ q = .int .i64 k) (fun _ _ => 0)
    case atStart => exact ⟨rfl, rfl⟩
    case round =>
      obtain ⟨rfl, rfl⟩ := hrel
      go_wp2
      go_ret
      exact ⟨rI (by simp), ⟨World.ownsRow_nil _ _ _ _, hhi⟩, Only.refl _ _⟩
  · obtain ⟨n, hnn⟩ : ∃ n, n = xs.length := ⟨_, rfl⟩
    have hown0 : w.ownsRow lo 3 1 (.slice (some ⟨g, 0, none⟩) n cap) n (ivs xs) := by rw [hnn]; exact ho
    rw [← hnn] at hn ⊢
    have hl := hide hnn
    clear ho hh hs ht hc hm hnn
    go_enter Try.func35, Try.ntmps35
    go_wp2
    go_loopw [1, 5] (fun q i wr => ∃ j : Nat, j ≤ n ∧ i = .int .i64 (j : Int) ∧ q = .int .i64 (k + (j : Int)) ∧ wr.ownsRow lo 3 1 (.slice (some ⟨g, 0, none⟩) n cap) n (ivs (marks k j ++ xs.drop j)) ∧ Only (fun b => b = g) w wr)
      (fun _ i _ => n - (intOf i).toNat)
    case atStart => exact ⟨0, Nat.zero_le _, rfl, by go_num, by simpa [marks] using hown0, Only.refl _ _⟩
    case round =>
      obtain ⟨j, hj, rfl, rfl, hown, hb⟩ := hrel
      by_cases hlt : j < n
      · have hst := hown.stored j (iv (k + j))
        have hO := hide hst.1
        have hG := hide hst.2
        have hdst : wr.cell? ⟨g, j, none⟩ = some ((ivs (marks k j ++ xs.drop j)).getD j undef) := by
          rw [hown.cellAt j (by omega)]
          have := hown.1
          rw [List.getD, List.getElem?_eq_getElem (by omega)]; rfl
        have hfr := hown.frozenAt j
        clear hst hown hown0
        go_wp2
        go_roundw
        case rel => exact ⟨j + 1, by omega, by go_num, by go_num, by have := hO.out; rw [marks_step xs k j n hl.out.symm hlt] at this; exact this, hb.trans (Only.of_grown hG.out (fun b hb => by simpa using hb.symm))⟩
        case measure => simp [intOf]; omega
      · obtain rfl : j = n := by omega
        have hO := hide hown
        clear hown hown0
        go_wp2
        go_ret
        refine ⟨rfl, ⟨?_, hhi⟩, hb.mono (fun b hb => by simp [Value.ownBlock, hb])⟩
        have := hO.out
        rw [List.drop_of_length_le (by have := hl.out; omega), List.append_nil] at this
        rw [marks_len]
        exact this
/-- looks whether the numbers are k, k+1, .. -/
def heldF (k : Int) (xs : List Int) : Int := if xs = marks k xs.length then k + xs.length else -1
theorem laws_heldIntS {B n c : Nat} {A : Option Addr} {xs : List Int} (k : Int) (w : World) (h : RI w B A n c xs) (hn : n ≤ 1048576) (hk0 : 0 ≤ k) (hk1 : k ≤ 1000000000000) (hx : xs = marks k n) :
    Calls Try.prog 36 #[.slice A n c, .int .i64 k] w fun e w' => e = .returned (.int .i64 (k + n)) ∧ w = w' := by
  have hX := hide hx
  clear hx
  go_enter Try.func36, Try.ntmps36
  go_wp2
  go_loop [1, 5] (fun q i => ∃ j : Nat, j ≤ n ∧ i = .int .i64 (j : Int) ∧ q = .int .i64 (k + (j : Int))) (fun _ i => n - (intOf i).toNat)
  case atStart => exact ⟨0, Nat.zero_le _, rfl, by go_num⟩
  case round =>
    obtain ⟨j, hj, rfl, rfl⟩ := hrel
    by_cases hlt : j < n
    · obtain ⟨b, off, rfl, hbB, hc⟩ := h.at_ hlt
      rw [hX.out, marks_get n k j hlt] at hc
      clear h
      go_wp2
      go_round
      case rel => exact ⟨j + 1, by omega, by go_num, by go_num⟩
      case measure => simp [intOf]; omega
    · obtain rfl : j = n := by omega
      clear h
      go_wp2
      go_ret
      exact ⟨rfl, rfl⟩

theorem eqI_same {B n c B' n' c' : Nat} {A A' : Option Addr} {xs : List Int} (w : World) (h : RI w B A n c xs) (h' : RI w B' A' n' c' xs) (hx : xs.length ≤ 1048576) :
    Calls Try.prog 32 #[.slice A n c, .slice A' n' c'] w fun e w' => e = .returned (.bool true) ∧ Below w.heap.size w w' :=
  (laws_eqIntS w h h' (by have := h.1; omega) (by have := h'.1; omega)).mono fun e w' hq => by
    obtain ⟨he, hb⟩ := hq.below
    exact ⟨he.trans (rB (by simp)), hb⟩
theorem toI {B n c : Nat} {A : Option Addr} {xs : List Int} (w : World) (h : RI w B A n c xs) (hB : B ≤ w.heap.size) (hn : xs.length ≤ 1048576) :
    Calls Try.prog 30 #[.slice A n c] w fun e w' => ∃ A' n' c', e = .returned (.slice A' n' c') ∧ OwI w' w.heap.size w'.heap.size (.slice A' n' c') xs ∧ Below w.heap.size w w' :=
  (laws_toIntS w h hB (by have := h.1; omega)).mono fun e w' ⟨v, he, ho, hb⟩ => by
    obtain ⟨A', n', c', rfl, _⟩ := ho.rv
    exact ⟨A', n', c', he, ho, hb⟩
theorem heldI {lo hi n c L : Nat} {A : Option Addr} (k : Int) (w : World) (h : OwI w lo hi (.slice A n c) (marks k L)) (hn : L ≤ 1048576) (hk0 : 0 ≤ k) (hk1 : k ≤ 1000000000000) :
    Calls Try.prog 36 #[.slice A n c, .int .i64 k] w fun e w' => e = .returned (.int .i64 (k + L)) ∧ w = w' := by
  have hr := h.ri
  have hl : n = L := by rw [← hr.1, marks_len]
  subst hl
  exact laws_heldIntS k w hr hn hk0 hk1 rfl
theorem newI {w w' : World} {xs : List Int} {v : Value} (h : NI w xs v w') : ∃ A n c, v = .slice A n c ∧ OwI w' w.heap.size w'.heap.size (.slice A n c) xs ∧ Below w.heap.size w w' := by
  obtain ⟨A, n, c, rfl, _⟩ := h.1.rv
  exact ⟨A, n, c, rfl, h.1, h.2⟩
end Go.Proofs.Ytehfglfbnjdcoaa
