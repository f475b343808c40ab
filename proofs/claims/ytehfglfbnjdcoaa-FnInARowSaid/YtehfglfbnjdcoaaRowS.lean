/-
  The laws' own functions over slices of records (Row).
-/
import Derived.Test.YtehfglfbnjdcoaaProg
import Derived.Test.YtehfglfbnjdcoaaStru
import Derived.Test.YtehfglfbnjdcoaaRec
import Derived.WalkKit
import Derived.BigQuiet
import Derived.Lib.QuietBelow
namespace Go.Proofs.Ytehfglfbnjdcoaa
open Go.RowKit Go.Sort
set_option maxRecDepth 100000

/-- a value of the struct -/
abbrev Rowv (A : Option Addr) (n cap : Nat) : Value := .agg #[.slice A n cap]
theorem laws_toRow {B n cap : Nat} {A : Option Addr} {xs : List Int} (w : World) (h : RI w B A n cap xs) (hB : B ≤ w.heap.size) (hx : xs.length ≤ 1048576) :
    Calls Try.prog 147 #[Rowv A n cap] w fun e w' => ∃ A' n' c', e = .returned (Rowv  A' n' c') ∧ OwI w' w.heap.size w'.heap.size (.slice A' n' c') xs ∧ Below w.heap.size w w' := by
  have HX := hide hx
  clear hx
  go_enter Try.func147, Try.ntmps147
  go_wp2_with fail
  obtain ⟨w1, hw1⟩ : ∃ w1, w1 = (w.alloc (.cells #[.slice A n cap] 140)) := ⟨_, rfl⟩
  obtain ⟨w2, hw2⟩ : ∃ w2, w2 = (w1.alloc (.cells #[.slice none 0 0] 90)) := ⟨_, rfl⟩
  obtain ⟨w3, hw3⟩ : ∃ w3, w3 = (w2.alloc (.cells #[.slice none 0 0] 90)) := ⟨_, rfl⟩
  have s1 : w1.heap.size = w.heap.size + 1 := by rw [hw1]; simp
  have s2 : w2.heap.size = w.heap.size + 1 + 1 := by rw [hw2]; simp [s1]
  have s3 : w3.heap.size = w.heap.size + 1 + 1 + 1 := by rw [hw3]; simp [s2]
  have hb1 : Below w.heap.size w w1 := hw1 ▸ (Below.refl _ _).alloc (Nat.le_refl _) _
  have hb2 : Below w.heap.size w w2 := hw2 ▸ hb1.alloc (by omega) _
  have hb3 : Below w.heap.size w w3 := hw3 ▸ hb2.alloc (by omega) _
  have p2 : w3.heap[w.heap.size + 1]? = some (.cells #[.slice none 0 0] 90 (0, 0)) := by
    rw [hw3, Below.heap_alloc _ _ _ (by omega), ← s1, hw2]; exact heap_alloc_new _ _
  have p3 : w3.heap[w.heap.size + 1 + 1]? = some (.cells #[.slice none 0 0] 90 (0, 0)) := by
    rw [hw3, ← s2]; exact heap_alloc_new _ _
  rw [← hw1, ← hw2, ← hw3]
  clear hw1 hw2 hw3 hb1 hb2
  refine (toI w3 (h.below (hb3.mono hB)) (by omega) HX.out).mono ?_
  rintro e w4 ⟨A', n', c', rfl, hO, hb4⟩
  have s4 := hb4.size
  replace p2 := (hb4.block _ (by omega)).trans p2
  replace p3 := (hb4.block _ (by omega)).trans p3
  clear h s1 s2
  have p3' := blk_set p3 0 (.slice A' n' c')
  have p2' := blk_far p2 (b := w.heap.size + 1 + 1) (j := 0) (by omega) (.slice A' n' c')
  have q := blk_cell p3 0
  have qf := blk_free p3 0
  simp at q
  have r0 := blk_cell p3' 0
  have t0 := blk_cell p2' 0
  have g0 := blk_free p2' 0
  simp at r0 t0
  have P2 := hide p2'
  clear p2 p3 p3' p2'
  go_wp2_with fail
  refine bodyPost_ret (results_cell_row (P := Try.prog) (d := _) rfl _ _ (w.heap.size + 1) 90 #[.slice A' n' c'] (0, 0) rfl ?_ Try.underlying90 rfl rfl) rfl ?_
  · exact blk_set P2.out 0 _
  · have ho5 := onlySet (p := fun b => w.heap.size ≤ b ∧ b < w3.heap.size) (onlySet (p := fun b => w.heap.size ≤ b ∧ b < w3.heap.size) (Only.refl _ w4) (a := ⟨w.heap.size + 1 + 1, 0, none⟩) ⟨show w.heap.size ≤ w.heap.size + 1 + 1 by omega, show w.heap.size + 1 + 1 < w3.heap.size by omega⟩ (.slice A' n' c')) (a := ⟨w.heap.size + 1, 0, none⟩) ⟨show w.heap.size ≤ w.heap.size + 1 by omega, show w.heap.size + 1 < w3.heap.size by omega⟩ (.slice A' n' c')
    have hs5 := ho5.size
    exact ⟨A', n', c', rfl, (hO.only ho5 (fun k h1 h2 h3 => by omega)).more (by omega) hs5, (hb3.trans (hb4.mono (by omega))).trans (ho5.below (by omega) (fun k hk h3 => by omega))⟩
theorem laws_szRow (A : Option Addr) (n cap : Nat) (k : Int) (w : World) (h0 : 0 ≤ k) (h1 : k ≤ 1048576) (hn : (n : Int) ≤ 9223372036854775807) :
    Calls Try.prog 144 #[Rowv A n cap, .int .i64 k] w fun e w' => e = .returned (.int .i64 (szF n k)) ∧ Below w.heap.size w w' := by
  have HB := hide (show Below w.heap.size w (w.alloc (.cells #[.slice A n cap] 140)) from (Below.refl _ _).alloc (Nat.le_refl _) _)
  have HS := hide (laws_szIntS A n cap k (w.alloc (.cells #[.slice A n cap] 140)) h0 h1 hn)
  have hlo := @szF_lo n k
  have hcase : szF n k = -1 ∨ 0 ≤ szF n k := by
    by_cases h1 : k < (n : Int)
    · exact .inl (by rw [szF, if_pos h1])
    · exact .inr (by rw [szF, if_neg h1]; omega)
  obtain ⟨q, hq⟩ : ∃ q, szF n k = q := ⟨_, rfl⟩
  rw [hq] at hcase HS ⊢
  clear hlo hn hq h0 h1
  go_enter Try.func144, Try.ntmps144
  go_wp2_with fail
  refine HS.out.mono ?_
  rintro e w' ⟨rfl, rfl⟩
  rcases hcase with rfl | hq0
  · go_wp2
    go_ret
    exact ⟨rfl, HB.out⟩
  · go_wp2
    go_ret
    exact ⟨rfl, HB.out⟩
theorem laws_eqRow {B n cap B' n' cap' : Nat} {A A' : Option Addr} {xs : List Int} (w : World) (h : RI w B A n cap xs) (h' : RI w B' A' n' cap' xs) (hB : B ≤ w.heap.size) (hB' : B' ≤ w.heap.size) (hx : xs.length ≤ 1048576) :
    Calls Try.prog 107 #[Rowv A n cap, Rowv  A' n' cap'] w fun e w' => e = .returned (.bool true) ∧ Below w.heap.size w w' := by
  obtain ⟨wb, hwb⟩ : ∃ wb, wb = ((w.alloc (.cells #[.slice A n cap] 90)).alloc (.cells #[.slice A' n' cap'] 90)) := ⟨_, rfl⟩
  have hb : Below w.heap.size w wb := hwb ▸ (((Below.refl _ _).alloc (Nat.le_refl _) _).alloc (by simp) _)
  have HE := hide (eqI_same wb (h.below (hb.mono hB)) (h'.below (hb.mono hB')) hx)
  have HB := hide hb
  have HW := hide hwb
  clear h h' hx hb hwb
  go_enter Try.func107, Try.ntmps107
  go_wp2_with fail
  rw [← HW.out]
  refine HE.out.mono ?_
  rintro e w2 ⟨rfl, hb2⟩
  go_wp2_with fail
  go_ret
  exact ⟨rfl, HB.out.trans (hb2.mono HB.out.size)⟩
abbrev OwRows := OL 3 90 1
theorem row_info : (Try.prog.info? 90).map (fun i => (i.zero, i.size, i.bytes)) = some (some (.agg #[.slice none 0 0]), 1, 24) := by kernel_rfl
theorem madeRow (w : World) (n : Nat) (hn : n ≤ 1048576) : OwRows (w.alloc (.cells (madeCells #[.slice none 0 0] (n * 1)) 90)) w.heap.size (w.heap.size + 1) (.slice (some ⟨w.heap.size, 0, none⟩) n n) n ((List.replicate n ([] : List Int)).flatMap rowF) := by
  refine OL.made w rowF ([] : List Int) (by omega) rowF_len _ rfl hn (fun i v f hv hf W lo hi => ?_) (fun i v hv => ?_)
  · match i with
    | 0 => simp at hv; simp [rowF] at hf; subst hv; subst hf; exact OI.nil _ _ _ _
    | i + 1 => simp at hv
  · match i with
    | 0 => simp at hv; subst hv; rfl
    | i + 1 => simp at hv
theorem laws_toRowS {B n c : Nat} {A : Option Addr} {ds : List (List Int)} (w : World) (h : RL 1 w B A n c (ds.flatMap rowF)) (hB : B ≤ w.heap.size) (hn : n ≤ 1048576) (hsm : SmR ds) :
    Calls Try.prog 111 #[.slice A n c] w fun e w' => ∃ A' c', e = .returned (.slice A' n c') ∧ OwRows w' w.heap.size w'.heap.size (.slice A' n c') n (ds.flatMap rowF) ∧ Below w.heap.size w w' := by
  have hmk := fun W' : World => run_make_recs (P := Try.prog) 30 90 _ _ _ Try.underlying30 row_info n (by omega) (by omega) W'
  have hl := hide (h.row rowF_len (by omega))
  have hmade := hide (madeRow w n hn)
  have HSM := hide hsm
  clear hsm
  go_enter Try.func111, Try.ntmps111
  go_wp2
  go_loopw [4] (fun i wr => ∃ k : Nat, k ≤ n ∧ i = .int .i64 (k : Int) ∧ OwRows wr w.heap.size wr.heap.size (.slice (some ⟨w.heap.size, 0, none⟩) n n) n ((ds.take k ++ List.replicate (n - k) ([] : List Int)).flatMap rowF) ∧ Below w.heap.size w wr)
    (fun i _ => n - (intOf i).toNat)
  case atStart => exact ⟨0, Nat.zero_le _, rfl, by simpa using hmade.out.more (Nat.le_refl _) (by simp), (Below.refl _ _).alloc (Nat.le_refl _) _⟩
  case round =>
    obtain ⟨k, hk, rfl, hown, hb⟩ := hrel
    by_cases hlt : k < n
    · obtain ⟨b, off, d, A1, n1, c1, rfl, hbB, hd, e0, hR⟩ := h.rowAt hlt
      have hbw : b < w.heap.size := by omega
      have y0 := (hb.cell (p := ⟨b, off + k, none⟩) hbw).trans e0
      have HT := hide (laws_toRow wr (hR.below (hb.mono hB)) (by have := hb.size; omega) (HSM.out k d hd))
      have HD := hide hd
      clear e0 h hR hd
      go_wp2_with fail
      refine HT.out.mono ?_
      rintro e w1 ⟨A2, n2, c2, rfl, hO, hb1⟩
      have hown1 := hown.below hb1
      have hg : ∀ i f, i < 1 → (rowF ([] : List Int))[i]? = some f → ((ds.take k ++ List.replicate (n - k) ([] : List Int)).flatMap rowF)[k * 1 + i]? = some f := fun i f hi hf => by
        rw [flat_get rowF 1 rowF_len _ k i ([] : List Int) (get_takeD ds ([] : List Int) k n hl.out hlt) hi]; exact hf
      obtain ⟨u0, q0, f0, _⟩ := hown1.at_ (hg 0 _ (by omega) rfl)
      rw [Nat.add_zero, Nat.mul_one] at q0 f0
      have hbl := (hown.lt w.heap.size rfl).2.2
      have hfl := flat_len rowF 1 rowF_len (ds.take k ++ List.replicate (n - k) ([] : List Int))
      rw [len_takeD ds ([] : List Int) k n hl.out (by omega)] at hfl
      have on3 : Only (fun b => b = w.heap.size) w1 w1 :=
        Only.refl (fun b => b = w.heap.size) w1
      have p0 := hown1.put (p := k) (f := .s d) (u := .slice A2 n2 c2) (hi := w1.heap.size) (by omega) rfl (hO.only on3 fun q h1 h2 h3 => by have h4 : q = w.heap.size := h3; omega) hb1.size
      have e4 := putAt_flat rowF 1 rowF_len (ds.take k ++ List.replicate (n - k) ([] : List Int)) k d (by rw [len_takeD ds ([] : List Int) k n hl.out (by omega)]; exact hlt)
      rw [set_takeD ds ([] : List Int) d k n hl.out HD.out] at e4
      have P3 := hide p0
      have E4 := hide e4
      have HBB := hide (hb.trans (hb1.mono hb.size))
      clear p0 on3 e4 hown hown1 hO hg hb hb1 hfl HT
      go_wp2_with fail
      go_roundw
      case rel =>
        have q := P3.out
        have e := E4.out
        simp only [putAt, rowF, Nat.mul_one] at e
        exact ⟨k + 1, by omega, by go_num, by rw [← e]; simpa using q, below_set (HBB.out) _ _ (Nat.le_refl _) _⟩
      case measure => simp [intOf]; omega
    · have HO := hide hown
      have hb' := hide hb
      clear hown hb h
      go_wp2_with fail
      go_ret
      exact ⟨_, _, rfl, by have := HO.out; rw [take_allD ds ([] : List Int) n k hl.out (by omega)] at this; exact this, hb'.out⟩
theorem laws_szRowS {B n c : Nat} {A : Option Addr} {ds : List (List Int)} (k0 : Int) (w : World) (h : RL 1 w B A n c (ds.flatMap rowF)) (hB : B ≤ w.heap.size) (h0 : 0 ≤ k0) (h1 : k0 ≤ 1048576) (hn : (n : Int) ≤ 9223372036854775807)
    (hsm : ∀ (j : Nat) (l : Nat), (ds.map fun d => d.length)[j]? = some l → (l : Int) ≤ 9223372036854775807) :
    Calls Try.prog 108 #[.slice A n c, .int .i64 k0] w fun e w' => e = .returned (.int .i64 (szL n (ds.map fun d => d.length) k0)) ∧ Below w.heap.size w w' := by
  have hl := hide (h.row rowF_len (by omega))
  have HSM := hide hsm
  clear hsm
  by_cases hk0 : k0 < (n : Int)
  · have HN := hide hk0
    have hs : Go.RowKit.wrap64 (k0 - (n : Int)) = k0 - (n : Int) := by unfold Go.RowKit.wrap64; omega
    clear h
    go_enter Try.func108, Try.ntmps108
    go_wp2
    go_ret
    exact ⟨rI (by rw [szL, if_pos HN.out]), Below.refl _ _⟩
  have hn1 : n ≤ 1048576 := by omega
  obtain ⟨ls, hls⟩ : ∃ ls, ls = ds.map fun d => d.length := ⟨_, rfl⟩
  obtain ⟨q0, hq0⟩ : ∃ q0, k0 - (n : Int) = q0 := ⟨_, rfl⟩
  have hq00 : 0 ≤ q0 := by omega
  have hq01 : q0 ≤ 1048576 := by omega
  have HK := hide (show szL n (ds.map fun d => d.length) k0 = szD ls q0 from by rw [szL, if_neg hk0, ← hls, hq0])
  have HLS := hide hls
  have HQ0 := hide hq0
  clear hls hq0 hn
  go_enter Try.func108, Try.ntmps108
  go_wp2
  go_loopw [1, 5] (fun q i wr => ∃ k : Nat, k ≤ n ∧ i = .int .i64 (k : Int) ∧ (∃ z, q = .int .i64 z ∧ 0 ≤ z ∧ z ≤ 1048576 ∧ Hid (z = szD (ls.take k) q0)) ∧ Below w.heap.size w wr)
    (fun _ i _ => n - (intOf i).toNat)
  case atStart => exact ⟨0, Nat.zero_le _, rfl, ⟨k0 - (n : Int), rfl, by omega, by omega, HQ0.out⟩, Below.refl _ _⟩
  case round =>
    obtain ⟨k, hk, rfl, ⟨z, rfl, hz0, hz1, hz⟩, hb⟩ := hrel
    by_cases hlt : k < n
    · obtain ⟨b, off, d, A1, n1, c1, rfl, hbB, hd, e0, hR⟩ := h.rowAt hlt
      have hbw : b < w.heap.size := by omega
      have y0 := (hb.cell (p := ⟨b, off + k, none⟩) hbw).trans e0
      have hlk : ls[k]? = some n1 := by rw [HLS.out, List.getElem?_map, hd]; simp [hR.1]
      have hst := szD_step ls q0 k n1 hlk (by rw [← hz.out]; exact hz0)
      rw [← hz.out] at hst
      have HZ := hide (laws_szRow A1 n1 c1 z wr hz0 hz1 (HSM.out k n1 (by rw [← HLS.out]; exact hlk)))
      have hcase := szF_case n1 z
      have HST := hide (show szD (ls.take (k + 1)) q0 = szF n1 z from hst)
      obtain ⟨z', hz'⟩ : ∃ z', szF n1 z = z' := ⟨_, rfl⟩
      rw [hz'] at HZ hcase HST
      clear hst hz' hd e0 h hlk
      rcases hcase with rfl | ⟨hc0, _, hc2⟩
      · go_wp2_with fail
        refine HZ.out.mono ?_
        rintro e w1 ⟨rfl, hb1⟩
        go_wp2_with fail
        go_ret
        exact ⟨rI (by rw [HK.out]; exact (szD_stop ls q0 (k + 1) hq00 HST.out).symm), hb.trans (hb1.mono hb.size)⟩
      · go_wp2_with fail
        refine HZ.out.mono ?_
        rintro e w1 ⟨rfl, hb1⟩
        go_wp2_with fail
        go_roundw
        case rel => exact ⟨k + 1, by omega, by go_num, ⟨z', rfl, hc0, by omega, HST.out.symm⟩, hb.trans (hb1.mono hb.size)⟩
        case measure => simp [intOf]; omega
    · have hkn : n ≤ k := by omega
      clear h
      go_wp2_with fail
      go_ret
      exact ⟨rI (by rw [HK.out, hz.out, List.take_of_length_le (by rw [HLS.out, List.length_map, hl.out]; exact hkn)]), hb⟩
theorem laws_eqRowS {B n c B' n' c' : Nat} {A A' : Option Addr} {ds : List (List Int)} (w : World) (h : RL 1 w B A n c (ds.flatMap rowF)) (h' : RL 1 w B' A' n' c' (ds.flatMap rowF)) (hB : B ≤ w.heap.size) (hB' : B' ≤ w.heap.size) (hn : n ≤ 1048576) (hsm : SmR ds) :
    Calls Try.prog 41 #[.slice A n c, .slice A' n' c'] w fun e w' => e = .returned (.bool true) ∧ Below w.heap.size w w' := by
  have hl := hide (h.row rowF_len (by omega))
  obtain rfl : n = n' := by have := h'.row rowF_len (by omega); rw [← hl.out]; exact this
  have HSM := hide hsm
  clear hsm
  go_enter Try.func41, Try.ntmps41
  go_wp2
  go_loopw [5] (fun i wr => ∃ k : Nat, k ≤ n ∧ i = .int .i64 (k : Int) ∧ Below w.heap.size w wr)
    (fun i _ => n - (intOf i).toNat)
  case atStart => exact ⟨0, Nat.zero_le _, rfl, Below.refl _ _⟩
  case round =>
    obtain ⟨k, hk, rfl, hb⟩ := hrel
    have hsz := hb.size
    by_cases hlt : k < n
    · obtain ⟨b, off, d, A1, n1, c1, rfl, hbB, hd, e0, hR⟩ := h.rowAt hlt
      obtain ⟨b2, off2, d2, A2, n2, c2, rfl, hbB2, hd2, g0, hR2⟩ := h'.rowAt hlt
      obtain rfl : d = d2 := by rw [hd] at hd2; simpa using hd2
      have hbw : b < w.heap.size := by omega
      have hbw2 : b2 < w.heap.size := by omega
      have h1 : (0 : Int) ≤ (k : Int) := by omega
      have h2 : (k : Int) < (n : Int) := by omega
      have y0 := cell_regrown ((hb.cell (p := ⟨b, off + k, none⟩) hbw).trans e0)
      have z0 := cell_regrown ((hb.cell (p := ⟨b2, off2 + k, none⟩) hbw2).trans g0)
      have HR1 := hR.below (hb.mono hB)
      have HR2 := hR2.below (hb.mono hB')
      have cE : ∀ d1 os, Calls Try.prog 107 #[Rowv A1 n1 c1, Rowv A2 n2 c2] (grow (redrawn wr d1) os) fun e w'' => e = .returned (.bool true) ∧ ∃ p : Regrown, w'' = grow (redrawn wr p.d) p.os :=
        fun d1 os => Calls.regrown_of (laws_eqRow _ (HR1.below ((below_regrown wr d1 os).mono (by omega))) (HR2.below ((below_regrown wr d1 os).mono (by omega))) (by have := (below_regrown wr d1 os).size; omega) (by have := (below_regrown wr d1 os).size; omega) (HSM.out k d hd))
      have CE := hide cE
      clear cE e0 g0 h h' hR hR2 hd hd2 HR1 HR2
      go_wp2_with fail
      refine wp_region_quiet_below (by kernel_rfl) (by kernel_rfl) ?_
      repeat (go_big_quiet_step (first | with_reducible exact CE.out _ _))
      refine wpQuiet_nil ?_
      intro _ hw'
      obtain ⟨⟨dq, osq⟩, hw''⟩ := hw'
      subst hw''
      have hq_w2 := below_regrown wr dq osq
      generalize grow (redrawn wr dq) osq = w2 at *
      go_wp2_with fail
      go_roundw
      case rel => exact ⟨k + 1, by omega, by go_num, hb.trans (hq_w2.mono hsz)⟩
      case measure => simp [intOf]; omega
    · have hkn : n ≤ k := by omega
      clear h h'
      go_wp2_with fail
      go_ret
      exact ⟨rfl, hb⟩
end Go.Proofs.Ytehfglfbnjdcoaa
