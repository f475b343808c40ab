/-
  The contracts of Unhex.
-/
import Derived.Test.YtgfieeonlhcnhaaDoorStr
import Derived.Test.YtgfieeonlhcnhaaDoorShelf
import Derived.WalkKit
namespace Go.Proofs.YtgfieeonlhcnhaaDoor
open Go.RowKit
set_option maxRecDepth 100000

def hexd : List UInt8 := [48, 49, 50, 51, 52, 53, 54, 55, 56, 57, 97, 98, 99, 100, 101, 102]
/-- the value of a hex digit, or -1 -/
def hexV (c : UInt8) : Int := Lib.indexByte hexd c
theorem idx_found : ∀ (l : List UInt8) (c : UInt8) (k : Nat), l[k]? = some c → (∀ j, j < k → l[j]? ≠ some c) → Lib.indexByte l c = k
  | a :: l, c, 0, h, _ => by simp at h; simp [Lib.indexByte, h]
  | a :: l, c, k + 1, h, hno => by
    have h0 : a ≠ c := fun e => hno 0 (by omega) (by simp [e])
    have ih := idx_found l c k (by simpa using h) (fun j hj => by simpa using hno (j + 1) (by omega))
    have hne : ¬ ((k : Int) = -1) := by omega
    simp [Lib.indexByte, h0, ih, hne]
  | [], _, _, h, _ => by simp at h
theorem idx_none : ∀ (l : List UInt8) (c : UInt8), (∀ j : Nat, l[j]? ≠ some c) → Lib.indexByte l c = -1
  | [], _, _ => rfl
  | a :: l, c, hno => by
    have h0 : a ≠ c := fun e => hno 0 (by simp [e])
    have ih := idx_none l c (fun j => by simpa using hno (j + 1))
    simp [Lib.indexByte, h0, ih]
theorem idx_bd : ∀ (l : List UInt8) (c : UInt8), -1 ≤ Lib.indexByte l c ∧ Lib.indexByte l c < l.length
  | [], _ => by simp [Lib.indexByte]
  | a :: l, c => by
    have ih := idx_bd l c
    simp only [Lib.indexByte, List.length_cons]
    split
    · omega
    · split <;> omega
theorem hexV_bd (c : UInt8) : -1 ≤ hexV c ∧ hexV c ≤ 15 := by
  have := idx_bd hexd c
  simp only [hexV]
  have hl : hexd.length = 16 := rfl
  omega
theorem hexd_get (k : Nat) (hk : k < 16) : ∃ d : UInt8, hexd[k]? = some d ∧ ((d.toNat : Nat) : Int) = hexD (k : Int) := by
  rcases (show k = 0 ∨ k = 1 ∨ k = 2 ∨ k = 3 ∨ k = 4 ∨ k = 5 ∨ k = 6 ∨ k = 7 ∨ k = 8 ∨ k = 9 ∨ k = 10 ∨ k = 11 ∨ k = 12 ∨ k = 13 ∨ k = 14 ∨ k = 15 by omega) with rfl | rfl | rfl | rfl | rfl | rfl | rfl | rfl | rfl | rfl | rfl | rfl | rfl | rfl | rfl | rfl <;> exact ⟨_, rfl, by decide⟩
/-- byte i, as a hex digit -/
def hxA (s : ByteArray) (i : Nat) : Int := hexV (s.data.toList.getD i 0)
theorem hxA_eq (s : ByteArray) (i : Nat) (h : i < s.size) : hxA s i = hexV s[i] := by
  rw [hxA]
  congr 1
  have h' : i < s.data.toList.length := by simpa using h
  simp [List.getD, List.getElem?_eq_getElem h']
  rfl
def uhAt (s : ByteArray) (t : Nat) : Bool := decide (0 ≤ hxA s (2 * t)) && decide (0 ≤ hxA s (2 * t + 1))
def uhV (s : ByteArray) (t : Nat) : Int := 16 * hxA s (2 * t) + hxA s (2 * t + 1)
def uhOk (s : ByteArray) : Bool := decide (s.size % 2 = 0) && (List.range (s.size / 2)).all (uhAt s)
def uhL (s : ByteArray) (n : Nat) : List Int := (List.range n).map (uhV s)
def uhS (s : ByteArray) : ByteArray := if uhOk s = true then strOfNums (uhL s (s.size / 2)) else ByteArray.empty
theorem uhL_snoc (s : ByteArray) (t : Nat) : uhL s (t + 1) = uhL s t ++ [uhV s t] := by simp [uhL, List.range_succ]
theorem uhOk_no {s : ByteArray} {t : Nat} (ht : t < s.size / 2) (h : uhAt s t = false) : uhOk s = false := by
  rw [uhOk, Bool.and_eq_false_iff]
  right
  rw [List.all_eq_false]
  exact ⟨t, by simpa using ht, by simp [h]⟩
theorem uhOk_yes {s : ByteArray} (he : s.size % 2 = 0) (h : ∀ t, t < s.size / 2 → uhAt s t = true) : uhOk s = true := by
  rw [uhOk, decide_eq_true he, Bool.true_and, List.all_eq_true]
  intro t ht
  exact h t (by simpa using ht)
theorem impl_ix (c : UInt8) (w : World) : Calls Tryd.prog 44 #[.string ⟨#[48, 49, 50, 51, 52, 53, 54, 55, 56, 57, 97, 98, 99, 100, 101, 102]⟩, .int .u8 (c.toNat : Int)] w fun e w' => e = .returned (.int .i64 (hexV c)) ∧ w = w' :=
  (Tryd.strings_IndexByte ⟨#[48, 49, 50, 51, 52, 53, 54, 55, 56, 57, 97, 98, 99, 100, 101, 102]⟩ (c.toNat : Int) w).mono fun e w' ⟨he, hw⟩ => ⟨he.trans (rI (by simp [hexV, hexd])), hw.symm⟩
set_option maxHeartbeats 2000000 in
theorem impl_Unhex (s : ByteArray) (w : World) (hs : s.size ≤ 1048576) :
    Calls Tryd.prog 27 #[.string s] w fun e w' => e = .returned (.tuple #[.string (uhS s), .bool (uhOk s)]) ∧ Below w.heap.size w w' := by
  by_cases hodd : s.size % 2 = 1
  · have hpar : ((s.size : Int) % 2 != 0) = true := by simp; omega
    have HF := hide (show uhOk s = false from by rw [uhOk, decide_eq_false (by omega), Bool.false_and])
    clear hodd
    go_enter Tryd.func27, Tryd.ntmps27
    go_wp2_with fail
    go_ret2
    exact ⟨by rw [uhS, HF.out]; rfl, by first | exact Below.refl _ _ | exact (Below.refl _ _).alloc (Nat.le_refl _) _⟩
  have hev : s.size % 2 = 0 := by omega
  have hpar : ((s.size : Int) % 2 != 0) = false := by simp; omega
  have HE := hide hev
  clear hodd hev
  go_enter Tryd.func27, Tryd.ntmps27
  go_wp2_with fail
  go_loopw [4, 5] (fun v i wr => ∃ k t : Nat, k ≤ s.size ∧ i = .int .i64 (k : Int) ∧ Hid (k = 2 * t) ∧ Hid (∀ j, j < t → uhAt s j = true) ∧ wr.ownsRow w.heap.size 5 1 v t ((uhL s t).map (Value.int .u8)) ∧ Below w.heap.size w wr)
    (fun _ i _ => s.size - (intOf i).toNat)
  case atStart => exact ⟨0, 0, Nat.zero_le _, rfl, rfl, fun j hj => absurd hj (by omega), World.ownsRow_made w #[] 0 (Nat.le_refl _) (by decide) rfl, (Below.refl _ _).alloc (Nat.le_refl _) _⟩
  case round =>
    obtain ⟨k, t, hk, rfl, hkt, hall, hown, hb⟩ := hrel
    have hsz := hb.size
    by_cases hlt : k < s.size
    · have hlt1 : k + 1 < s.size := by have := HE.out; have := hkt.out; omega
      have ht : t < s.size / 2 := by have := hkt.out; omega
      have htl : t ≤ 1048576 := by omega
      obtain ⟨a, ha⟩ : ∃ a, a = hexV s[k] := ⟨_, rfl⟩
      obtain ⟨b, hbv⟩ : ∃ b, b = hexV s[k + 1] := ⟨_, rfl⟩
      have hab := hexV_bd s[k]
      have hbb := hexV_bd s[k + 1]
      rw [← ha] at hab
      rw [← hbv] at hbb
      have CA := hide (show ∀ W, Calls Tryd.prog 44 #[.string ⟨#[48, 49, 50, 51, 52, 53, 54, 55, 56, 57, 97, 98, 99, 100, 101, 102]⟩, .int .u8 (s[k].toNat : Int)] W fun e w' => e = .returned (.int .i64 a) ∧ W = w' from fun W => by rw [ha]; exact impl_ix s[k] W)
      have CB := hide (show ∀ W, Calls Tryd.prog 44 #[.string ⟨#[48, 49, 50, 51, 52, 53, 54, 55, 56, 57, 97, 98, 99, 100, 101, 102]⟩, .int .u8 (s[k + 1].toNat : Int)] W fun e w' => e = .returned (.int .i64 b) ∧ W = w' from fun W => by rw [hbv]; exact impl_ix s[k + 1] W)
      have HA := hide (show hxA s (2 * t) = a from by rw [← hkt.out, hxA_eq s k hlt, ha])
      have HB := hide (show hxA s (2 * t + 1) = b from by rw [← hkt.out, hxA_eq s (k + 1) hlt1, hbv])
      clear ha hbv
      by_cases ha0 : a < 0
      · have HF := hide (uhOk_no ht (show uhAt s t = false from by rw [uhAt, HA.out, decide_eq_false (by omega), Bool.false_and]))
        go_wp2_with fail
        refine (CA.out _).mono ?_
        rintro e w' ⟨rfl, rfl⟩
        go_wp2_with fail
        refine (CB.out _).mono ?_
        rintro e w' ⟨rfl, rfl⟩
        go_wp2_with fail
        go_ret2
        exact ⟨by rw [uhS, HF.out]; rfl, hb⟩
      by_cases hb0 : b < 0
      · have HF := hide (uhOk_no ht (show uhAt s t = false from by rw [uhAt, HB.out, decide_eq_false (show ¬ 0 ≤ b by omega), Bool.and_false]))
        go_wp2_with fail
        refine (CA.out _).mono ?_
        rintro e w' ⟨rfl, rfl⟩
        go_wp2_with fail
        refine (CB.out _).mono ?_
        rintro e w' ⟨rfl, rfl⟩
        go_wp2_with fail
        go_ret2
        exact ⟨by rw [uhS, HF.out]; rfl, hb⟩
      have HT := hide (show uhAt s t = true from by rw [uhAt, HA.out, HB.out, decide_eq_true (show 0 ≤ a by omega), decide_eq_true (show 0 ≤ b by omega)]; rfl)
      have HV := hide (show (uhL s (t + 1)).map (Value.int .u8) = (uhL s t).map (Value.int .u8) ++ [.int .u8 (16 * a + b)] from by rw [uhL_snoc, List.map_append, uhV, HA.out, HB.out]; rfl)
      have hw := IntWalk.u8_in (16 * a + b) (by omega)
      go_wp2_with fail
      refine (CA.out _).mono ?_
      rintro e w' ⟨rfl, rfl⟩
      go_wp2_with fail
      refine (CB.out _).mono ?_
      rintro e w' ⟨rfl, rfl⟩
      go_wp2_with (at_builtin; refine wpList_push1 wr (.int .u8 (16 * a + b)) rfl (.tmp 34) (.tmp 40) _ rfl w.heap.size 5 _ 1 Tryd.underlying22 u8_info rfl u4 _ _ rfl hown rfl rfl (by omega) (by omega) hsz ?_; intro v' w1 hown' hg _)
      go_roundw
      case rel => exact ⟨k + 2, t + 1, by omega, by go_num, show k + 2 = 2 * (t + 1) from by have := hkt.out; omega, fun j hj => by
        by_cases hjt : j < t
        · exact hall.out j hjt
        · obtain rfl : j = t := by omega
          exact HT.out, by rw [HV.out]; exact hown', hb.grown hg hsz (fun q hq => (hown.lt q hq).1)⟩
      case measure => simp [intOf]; omega
    · have hks : s.size ≤ k := by omega
      have ht2 : t = s.size / 2 := by have := hkt.out; omega
      have HF := hide (uhOk_yes HE.out (fun j hj => hall.out j (by omega)))
      have HT := hide ht2
      have hcv := run_conv_own (P := Tryd.prog) Tryd.underlying22 Tryd.underlying5 Tryd.underlying9 hown
      clear ht2
      go_wp2_with fail
      go_ret2
      exact ⟨by rw [uhS, if_pos HF.out, HF.out, HT.out]; rfl, hb⟩
end Go.Proofs.YtgfieeonlhcnhaaDoor
