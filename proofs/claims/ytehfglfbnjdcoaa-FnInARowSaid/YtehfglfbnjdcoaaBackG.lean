/-
  The contracts of goBack, l7Back.
-/
import Derived.Test.YtehfglfbnjdcoaaJGive
import Derived.Test.YtehfglfbnjdcoaaOpB
import Derived.Test.YtehfglfbnjdcoaaRowS
import Derived.WalkKit
import Derived.BigQuiet
import Derived.Deep.DeepMust
import Derived.Deep.RegionHeld3
import Derived.Deep.Cut
namespace Go.Proofs.Ytehfglfbnjdcoaa
open Go.RowKit
set_option maxRecDepth 100000

/-- the gradients when q operations are still to be gone through -/
def bkP (ds : List OpD) (rs : List (List Int)) (e : List Int) (q : Nat) : List (List Int) := (List.range ds.length).map fun i => if q ≤ i then bkG ds rs e i else []
theorem bkP_len (ds : List OpD) (rs : List (List Int)) (e : List Int) (q : Nat) : (bkP ds rs e q).length = ds.length := by simp [bkP]
theorem bkP_top (ds : List OpD) (rs : List (List Int)) (e : List Int) : bkP ds rs e ds.length = List.replicate ds.length [] := by
  apply List.ext_getElem
  · simp [bkP]
  · intro i h1 h2
    simp only [bkP, List.getElem_map, List.getElem_range, List.getElem_replicate]
    rw [if_neg (by rw [bkP_len] at h1; omega)]
theorem bkP_zero (ds : List OpD) (rs : List (List Int)) (e : List Int) : bkP ds rs e 0 = bkR ds rs e := by simp [bkP, bkR]
theorem bkP_set {ds : List OpD} {rs : List (List Int)} {e : List Int} {q : Nat} : (bkP ds rs e (q + 1)).set q (bkG ds rs e q) = bkP ds rs e q := by
  apply List.ext_getElem
  · simp [bkP]
  · intro i h1 h2
    rw [List.getElem_set]
    by_cases h : q = i
    · subst h
      simp [bkP]
    · rw [if_neg h]
      simp only [bkP, List.getElem_map, List.getElem_range]
      by_cases h3 : q ≤ i
      · rw [if_pos (by omega), if_pos h3]
      · rw [if_neg (by omega), if_neg h3]
theorem bkP_get {ds : List OpD} {rs : List (List Int)} {e : List Int} {q : Nat} (h : q < ds.length) : (bkP ds rs e (q + 1))[q]? = some [] := by
  simp only [bkP, List.getElem?_map, List.getElem?_range h, Option.map_some]
  rw [if_neg (by omega)]
set_option maxHeartbeats 2000000 in
theorem impl_goBack {B n c B' n' c' B'' n'' c'' : Nat} {A A' A'' : Option Addr} {ds : List OpD} {rs : List (List Int)} {e : List Int} (w : World) (h : RL 4 w B A n c (ds.flatMap opF)) (hB : B ≤ w.heap.size) (hn : n ≤ 1048576) (hsm : SmO ds)
    (h' : RL 1 w B' A' n' c' (rs.flatMap rowF)) (hB' : B' ≤ w.heap.size) (hn' : n' ≤ 1048577) (hnn : n ≤ n') (hsm' : SmR rs) (h'' : RI w B'' A'' n'' c'' e) (hB'' : B'' ≤ w.heap.size) (he : e.length ≤ 6) :
    Calls Try.prog 82 #[.slice A n c, .slice A' n' c', .slice A'' n'' c''] w fun e' w' => ∃ A1 c1 v, e' = .returned (.tuple #[.slice A1 n c1, v, .bool (bkS ds rs e n)]) ∧ OwRows w' w.heap.size w'.heap.size (.slice A1 n c1) n ((bkR ds rs e).flatMap rowF) ∧ Below w.heap.size w w' := by
  have hmk := fun W' : World => run_make_recs (P := Try.prog) 30 90 _ _ _ Try.underlying30 row_info n (by omega) (by omega) W'
  have HL := hide (h.row opF_len (by omega))
  have HSM := hide hsm
  have HSM' := hide hsm'
  have HE := hide he
  have HMADE : Hid (OwRows (w.alloc (.cells (madeCells #[.slice none 0 0] n) 90)) w.heap.size (w.heap.size + 1) (.slice (some ⟨w.heap.size, 0, none⟩) n n) n ((List.replicate n ([] : List Int)).flatMap rowF)) := hide (by have := madeRow w n hn; rw [Nat.mul_one] at this; exact this)
  have HX := hide h''
  have hn7 : n'' ≤ 6 := by rw [← h''.1]; exact he
  have HB0 := hide (show Below w.heap.size w (w.alloc (.cells (madeCells #[.slice none 0 0] n) 90)) from (Below.refl _ _).alloc (Nat.le_refl _) _)
  clear hsm hsm' he h''
  go_enter Try.func82, Try.ntmps82
  go_wp2_with fail
  go_loopw [2, 10, 11] (fun dv fl i wr => ∃ q : Nat, q ≤ n ∧ ((i = .int .i64 (-1) ∧ q = 0) ∨ ∃ q' : Nat, q = q' + 1 ∧ i = .int .i64 (q' : Int)) ∧ (∃ Ad nd cd, dv = .slice Ad nd cd ∧ nd ≤ 6 ∧ RI wr wr.heap.size Ad nd cd (bkD ds rs e (n - q))) ∧ fl = .bool (bkS ds rs e (n - q)) ∧ OwRows wr w.heap.size wr.heap.size (.slice (some ⟨w.heap.size, 0, none⟩) n n) n ((bkP ds rs e q).flatMap rowF) ∧ Below w.heap.size w wr)
    (fun _ _ i _ => (intOf i + 1).toNat)
  case atStart =>
    refine ⟨n, Nat.le_refl _, ?_, ⟨_, _, _, rfl, hn7, ?_⟩, ?_, ?_, (Below.refl _ _).alloc (Nat.le_refl _) _⟩
    · rcases n with _ | m
      · exact .inl ⟨by go_num, rfl⟩
      · exact .inr ⟨m, rfl, by go_num⟩
    · rw [Nat.sub_self]
      exact (HX.out.below (HB0.out.mono hB'')).more (Nat.le_trans hB'' HB0.out.size)
    · rw [Nat.sub_self]; rfl
    · have e1 := bkP_top ds rs e
      rw [HL.out] at e1
      rw [e1]
      exact HMADE.out.more (Nat.le_refl _) (show w.heap.size + 1 ≤ (w.alloc (.cells (madeCells #[.slice none 0 0] n) 90)).heap.size by simp)
  case round =>
    obtain ⟨q0, hq0, hi, ⟨Ad, nd, cd, rfl, hnd, hD⟩, rfl, hown, hb⟩ := hrel
    have hsz := hb.size
    rcases hi with ⟨rfl, rfl⟩ | ⟨q, rfl, rfl⟩
    · have HO := hide hown
      have HB := hide hb
      clear hown hb h h' hD
      go_wp2_with fail
      go_ret3
      exact ⟨_, _, _, rfl, by have := HO.out; rw [bkP_zero] at this; exact this, HB.out⟩
    · obtain ⟨b, off, d, A2, n2, c2, rfl, hbB, hd, e0, e1, e2, e3, hR⟩ := h.opAt (j := q) (by omega)
      obtain ⟨b3, off3, r, A3, n3, c3, rfl, hb3, hr, f0, hR3⟩ := h'.rowAt (j := q) (by omega)
      have hij : q + (n - (q + 1)) + 1 = ds.length := by rw [HL.out]; omega
      have hj : n - q = (n - (q + 1)) + 1 := by omega
      have hds := bkD_step (e := e) hij hd hr
      have hgs := bkG_step (e := e) hij hd hr
      have hss := bkS_step (e := e) hij hd hr
      rw [← hj] at hds hss
      obtain ⟨dd, hdd⟩ : ∃ dd, bkD ds rs e (n - (q + 1)) = dd := ⟨_, rfl⟩
      obtain ⟨fb, hfb⟩ : ∃ fb, bkS ds rs e (n - (q + 1)) = fb := ⟨_, rfl⟩
      rw [hdd] at hds hgs hss hD
      rw [hfb] at hss ⊢
      obtain ⟨y, hy⟩ : ∃ y, bw d r dd = y := ⟨_, rfl⟩
      obtain ⟨g, hg⟩ : ∃ g, bwG d r dd = g := ⟨_, rfl⟩
      obtain ⟨s, hs⟩ : ∃ s, bwS d r dd = s := ⟨_, rfl⟩
      have HYL := hide (show y.length ≤ 6 from by rw [← hy]; exact bw_len ..)
      rw [hy] at hds
      rw [hg] at hgs
      rw [hs] at hss
      have HDS := hide hds
      have HSS := hide hss
      have HSET := hide (show (bkP ds rs e (q + 1)).set q g = bkP ds rs e q from by rw [← hgs]; exact bkP_set)
      have HGET := hide (show ((bkP ds rs e (q + 1)).flatMap rowF)[q]? = some (.s []) from by
        have := flat_get rowF 1 rowF_len _ q 0 _ (bkP_get (ds := ds) (rs := rs) (e := e) (q := q) (by omega)) (by omega)
        rw [show q * 1 + 0 = q by omega] at this
        rw [this]; rfl)
      have HFL := hide (show ((bkP ds rs e (q + 1)).flatMap rowF).length = n from by rw [flat_len rowF 1 rowF_len, bkP_len, HL.out, Nat.mul_one])
      have hrs := HSM'.out q r hr
      have hsd := HSM.out q d hd
      rw [hR3.1] at hrs
      rw [hR.1] at hsd
      have h1 : (0 : Int) ≤ (q : Int) := by omega
      have h2 : (q : Int) < (n : Int) := by omega
      have h3 : (q : Int) < (n' : Int) := by omega
      have hbk : b < w.heap.size := by omega
      have hbk3 : b3 < w.heap.size := by omega
      have y0 := (hb.cell (p := ⟨b, off + q * 4, none⟩) hbk).trans e0
      have y1 := (hb.cell (p := ⟨b, off + q * 4 + 1, none⟩) hbk).trans e1
      have y2 := (hb.cell (p := ⟨b, off + q * 4 + 2, none⟩) hbk).trans e2
      have y3 := (hb.cell (p := ⟨b, off + q * 4 + 3, none⟩) hbk).trans e3
      have f1 := (hb.cell (p := ⟨b3, off3 + q, none⟩) hbk3).trans f0
      have hOP := impl_OpBackward d.k d.i d.o wr.drew (B := B) (B' := B') (B'' := wr.heap.size) (hR.below (hb.mono hB)).drew (hR3.below (hb.mono hB')).drew hD.drew (by show B ≤ wr.heap.size; omega) (by show B' ≤ wr.heap.size; omega) (by exact Nat.le_refl _) hsd hrs (by omega)
      rw [show (⟨d.k, d.i, d.o, d.p⟩ : OpD) = d from rfl, hy, hg, hs] at hOP
      have HOP := hide hOP
      have HOWN := hide hown
      have HB := hide hb
      have hq6 : (q : Int) ≤ 1048576 := by omega
      clear hOP e0 e1 e2 e3 hR hR3 hown hd hr hy hg hs hds hgs hss hdd hfb f0 hb h h' hD hij hj
      go_wp2_with fail
      have gate0 : True := trivial
      go_region_held3 (fun W => W.cell? ⟨b, off + q * 4, none⟩ = some (.int .i64 d.k) ∧ W.cell? ⟨b, off + q * 4 + 1, none⟩ = some (.int .i64 d.i) ∧ W.cell? ⟨b, off + q * 4 + 2, none⟩ = some (.int .i64 d.o) ∧ W.cell? ⟨b, off + q * 4 + 3, none⟩ = some (.slice A2 n2 c2) ∧ W.cell? ⟨b3, off3 + q, none⟩ = some (.slice A3 n3 c3)) (first | exact ⟨y0, y1, y2, y3, f1⟩) (first
        | (clear gate0; go_at_call 38; refine HOP.out.mono ?_; rintro e w1 ⟨v, u, mid9, rfl, hm1, hm2, hO1, hO2, hb1⟩; obtain ⟨A5, n5, c5, rfl, _⟩ := hO1.rv; obtain ⟨A6, n6, c6, rfl, _⟩ := hO2.rv; have hb1 : Below wr.heap.size wr w1 := undrew hb1; have hO : OwI w1 wr.heap.size w1.heap.size (.slice A6 n6 c6) g := hO2.more hm1 (Nat.le_refl _); have hO5 : OwI w1 wr.heap.size w1.heap.size (.slice A5 n5 c5) y := hO1.more (Nat.le_refl _) hm2; replace y0 := cellB hb1 y0; replace y1 := cellB hb1 y1; replace y2 := cellB hb1 y2; replace y3 := cellB hb1 y3; replace f1 := cellB hb1 f1))
      have hs1 := hb1.size
      have hown1 := HOWN.out.below hb1
      obtain ⟨u0, c0, fz0, _⟩ := hown1.at_ HGET.out
      have hput := hown1.put (p := q) (f := .s g) (u := .slice A6 n6 c6) (hi := w1.heap.size) (by rw [HFL.out]; omega) rfl hO hs1
      have HPUT := hide hput
      have HO5 := hide hO5
      have hn5 : n5 ≤ 6 := by rw [← hO5.ri.1]; exact HYL.out
      have HB1 := hide (HB.out.trans (hb1.mono HB.out.size))
      have HLT := hide (HOWN.out.lt w.heap.size rfl).2.2
      clear hown1 hput hO5 hO hO1 hO2 hb1 y0 y1 y2 y3 f1
      cases fb
      all_goals
        go_wp2_with fail
        go_roundw
        case rel =>
          refine ⟨q, by omega, ?_, ⟨A5, n5, c5, rfl, hn5, ?_⟩, ?_, ?_, below_set HB1.out _ _ (Nat.le_refl _) _⟩
          · rcases q with _ | q''
            · exact .inl ⟨by go_num, rfl⟩
            · exact .inr ⟨q'', rfl, by go_num⟩
          · rw [HDS.out]
            have hon : Only (fun b => b = w.heap.size) w1 (w1.setCell ⟨w.heap.size, q, none⟩ (.slice A6 n6 c6)) := (Only.refl (fun b => b = w.heap.size) w1).set w.heap.size q rfl _
            exact (HO5.out.only hon (fun k h1 h2 h3 => by have h4 : k = w.heap.size := h3; have := HLT.out; omega)).ri.more (by simp [World.setCell])
          · rw [HSS.out]; simp
          · have := HPUT.out
            have e4 := putAt_flat rowF 1 rowF_len (bkP ds rs e (q + 1)) q g (by rw [bkP_len, HL.out]; omega)
            rw [HSET.out] at e4
            simp only [putAt, rowF, Nat.mul_one] at e4
            rw [e4] at this
            simpa [World.setCell] using this
        case measure => (simp [intOf]; try omega)
set_option maxHeartbeats 2000000 in
theorem spec_l7Back {B n c B' n' c' B'' n'' c'' : Nat} {A A' A'' : Option Addr} {ds : List OpD} {rs : List (List Int)} {e : List Int} (w : World) (h : RL 4 w B A n c (ds.flatMap opF)) (hB : B ≤ w.heap.size) (hn : n ≤ 1048576) (hsm : SmO ds)
    (h' : RL 1 w B' A' n' c' (rs.flatMap rowF)) (hB' : B' ≤ w.heap.size) (hn' : n' ≤ 1048577) (hnn : n ≤ n') (hsm' : SmR rs) (h'' : RI w B'' A'' n'' c'' e) (hB'' : B'' ≤ w.heap.size) (he : e.length ≤ 6) :
    Calls Try.prog 77 #[.slice A n c, .slice A' n' c', .slice A'' n'' c''] w fun e' w' => ∃ A1 c1 v, e' = .returned (.tuple #[.slice A1 n c1, v, .bool (bkS ds rs e n)]) ∧ OwRows w' w.heap.size w'.heap.size (.slice A1 n c1) n ((bkR ds rs e).flatMap rowF) ∧ Below w.heap.size w w' := by
  have hmk := fun W' : World => run_make_recs (P := Try.prog) 30 90 _ _ _ Try.underlying30 row_info n (by omega) (by omega) W'
  have HL := hide (h.row opF_len (by omega))
  have HSM := hide hsm
  have HSM' := hide hsm'
  have HE := hide he
  have HMADE : Hid (OwRows (w.alloc (.cells (madeCells #[.slice none 0 0] n) 90)) w.heap.size (w.heap.size + 1) (.slice (some ⟨w.heap.size, 0, none⟩) n n) n ((List.replicate n ([] : List Int)).flatMap rowF)) := hide (by have := madeRow w n hn; rw [Nat.mul_one] at this; exact this)
  have HX := hide h''
  have hn7 : n'' ≤ 6 := by rw [← h''.1]; exact he
  have HB0 := hide (show Below w.heap.size w (w.alloc (.cells (madeCells #[.slice none 0 0] n) 90)) from (Below.refl _ _).alloc (Nat.le_refl _) _)
  clear hsm hsm' he h''
  go_enter Try.func77, Try.ntmps77
  go_wp2_with fail
  go_loopw [2, 10, 11] (fun dv fl i wr => ∃ q : Nat, q ≤ n ∧ ((i = .int .i64 (-1) ∧ q = 0) ∨ ∃ q' : Nat, q = q' + 1 ∧ i = .int .i64 (q' : Int)) ∧ (∃ Ad nd cd, dv = .slice Ad nd cd ∧ nd ≤ 6 ∧ RI wr wr.heap.size Ad nd cd (bkD ds rs e (n - q))) ∧ fl = .bool (bkS ds rs e (n - q)) ∧ OwRows wr w.heap.size wr.heap.size (.slice (some ⟨w.heap.size, 0, none⟩) n n) n ((bkP ds rs e q).flatMap rowF) ∧ Below w.heap.size w wr)
    (fun _ _ i _ => (intOf i + 1).toNat)
  case atStart =>
    refine ⟨n, Nat.le_refl _, ?_, ⟨_, _, _, rfl, hn7, ?_⟩, ?_, ?_, (Below.refl _ _).alloc (Nat.le_refl _) _⟩
    · rcases n with _ | m
      · exact .inl ⟨by go_num, rfl⟩
      · exact .inr ⟨m, rfl, by go_num⟩
    · rw [Nat.sub_self]
      exact (HX.out.below (HB0.out.mono hB'')).more (Nat.le_trans hB'' HB0.out.size)
    · rw [Nat.sub_self]; rfl
    · have e1 := bkP_top ds rs e
      rw [HL.out] at e1
      rw [e1]
      exact HMADE.out.more (Nat.le_refl _) (show w.heap.size + 1 ≤ (w.alloc (.cells (madeCells #[.slice none 0 0] n) 90)).heap.size by simp)
  case round =>
    obtain ⟨q0, hq0, hi, ⟨Ad, nd, cd, rfl, hnd, hD⟩, rfl, hown, hb⟩ := hrel
    have hsz := hb.size
    rcases hi with ⟨rfl, rfl⟩ | ⟨q, rfl, rfl⟩
    · have HO := hide hown
      have HB := hide hb
      clear hown hb h h' hD
      go_wp2_with fail
      go_ret3
      exact ⟨_, _, _, rfl, by have := HO.out; rw [bkP_zero] at this; exact this, HB.out⟩
    · obtain ⟨b, off, d, A2, n2, c2, rfl, hbB, hd, e0, e1, e2, e3, hR⟩ := h.opAt (j := q) (by omega)
      obtain ⟨b3, off3, r, A3, n3, c3, rfl, hb3, hr, f0, hR3⟩ := h'.rowAt (j := q) (by omega)
      have hij : q + (n - (q + 1)) + 1 = ds.length := by rw [HL.out]; omega
      have hj : n - q = (n - (q + 1)) + 1 := by omega
      have hds := bkD_step (e := e) hij hd hr
      have hgs := bkG_step (e := e) hij hd hr
      have hss := bkS_step (e := e) hij hd hr
      rw [← hj] at hds hss
      obtain ⟨dd, hdd⟩ : ∃ dd, bkD ds rs e (n - (q + 1)) = dd := ⟨_, rfl⟩
      obtain ⟨fb, hfb⟩ : ∃ fb, bkS ds rs e (n - (q + 1)) = fb := ⟨_, rfl⟩
      rw [hdd] at hds hgs hss hD
      rw [hfb] at hss ⊢
      obtain ⟨y, hy⟩ : ∃ y, bw d r dd = y := ⟨_, rfl⟩
      obtain ⟨g, hg⟩ : ∃ g, bwG d r dd = g := ⟨_, rfl⟩
      obtain ⟨s, hs⟩ : ∃ s, bwS d r dd = s := ⟨_, rfl⟩
      have HYL := hide (show y.length ≤ 6 from by rw [← hy]; exact bw_len ..)
      rw [hy] at hds
      rw [hg] at hgs
      rw [hs] at hss
      have HDS := hide hds
      have HSS := hide hss
      have HSET := hide (show (bkP ds rs e (q + 1)).set q g = bkP ds rs e q from by rw [← hgs]; exact bkP_set)
      have HGET := hide (show ((bkP ds rs e (q + 1)).flatMap rowF)[q]? = some (.s []) from by
        have := flat_get rowF 1 rowF_len _ q 0 _ (bkP_get (ds := ds) (rs := rs) (e := e) (q := q) (by omega)) (by omega)
        rw [show q * 1 + 0 = q by omega] at this
        rw [this]; rfl)
      have HFL := hide (show ((bkP ds rs e (q + 1)).flatMap rowF).length = n from by rw [flat_len rowF 1 rowF_len, bkP_len, HL.out, Nat.mul_one])
      have hrs := HSM'.out q r hr
      have hsd := HSM.out q d hd
      rw [hR3.1] at hrs
      rw [hR.1] at hsd
      have h1 : (0 : Int) ≤ (q : Int) := by omega
      have h2 : (q : Int) < (n : Int) := by omega
      have h3 : (q : Int) < (n' : Int) := by omega
      have hbk : b < w.heap.size := by omega
      have hbk3 : b3 < w.heap.size := by omega
      have y0 := (hb.cell (p := ⟨b, off + q * 4, none⟩) hbk).trans e0
      have y1 := (hb.cell (p := ⟨b, off + q * 4 + 1, none⟩) hbk).trans e1
      have y2 := (hb.cell (p := ⟨b, off + q * 4 + 2, none⟩) hbk).trans e2
      have y3 := (hb.cell (p := ⟨b, off + q * 4 + 3, none⟩) hbk).trans e3
      have f1 := (hb.cell (p := ⟨b3, off3 + q, none⟩) hbk3).trans f0
      have hOP := spec_OpBackward d.k d.i d.o wr.drew (B := B) (B' := B') (B'' := wr.heap.size) (hR.below (hb.mono hB)).drew (hR3.below (hb.mono hB')).drew hD.drew (by show B ≤ wr.heap.size; omega) (by show B' ≤ wr.heap.size; omega) (by exact Nat.le_refl _) hsd hrs (by omega)
      rw [show (⟨d.k, d.i, d.o, d.p⟩ : OpD) = d from rfl, hy, hg, hs] at hOP
      have HOP := hide hOP
      have HOWN := hide hown
      have HB := hide hb
      have hq6 : (q : Int) ≤ 1048576 := by omega
      clear hOP e0 e1 e2 e3 hR hR3 hown hd hr hy hg hs hds hgs hss hdd hfb f0 hb h h' hD hij hj
      go_wp2_with fail
      have gate0 : True := trivial
      go_region_held3 (fun W => W.cell? ⟨b, off + q * 4, none⟩ = some (.int .i64 d.k) ∧ W.cell? ⟨b, off + q * 4 + 1, none⟩ = some (.int .i64 d.i) ∧ W.cell? ⟨b, off + q * 4 + 2, none⟩ = some (.int .i64 d.o) ∧ W.cell? ⟨b, off + q * 4 + 3, none⟩ = some (.slice A2 n2 c2) ∧ W.cell? ⟨b3, off3 + q, none⟩ = some (.slice A3 n3 c3)) (first | exact ⟨y0, y1, y2, y3, f1⟩) (first
        | (clear gate0; go_at_call 37; refine HOP.out.mono ?_; rintro e w1 ⟨v, u, rfl, hO1, hO2, hb1⟩; obtain ⟨A5, n5, c5, rfl, _⟩ := hO1.rv; obtain ⟨A6, n6, c6, rfl, _⟩ := hO2.rv; have hb1 : Below wr.heap.size wr w1 := undrew hb1; have hO : OwI w1 wr.heap.size w1.heap.size (.slice A6 n6 c6) g := hO2; have hO5 : OwI w1 wr.heap.size w1.heap.size (.slice A5 n5 c5) y := hO1; replace y0 := cellB hb1 y0; replace y1 := cellB hb1 y1; replace y2 := cellB hb1 y2; replace y3 := cellB hb1 y3; replace f1 := cellB hb1 f1))
      have hs1 := hb1.size
      have hown1 := HOWN.out.below hb1
      obtain ⟨u0, c0, fz0, _⟩ := hown1.at_ HGET.out
      have hput := hown1.put (p := q) (f := .s g) (u := .slice A6 n6 c6) (hi := w1.heap.size) (by rw [HFL.out]; omega) rfl hO hs1
      have HPUT := hide hput
      have HO5 := hide hO5
      have hn5 : n5 ≤ 6 := by rw [← hO5.ri.1]; exact HYL.out
      have HB1 := hide (HB.out.trans (hb1.mono HB.out.size))
      have HLT := hide (HOWN.out.lt w.heap.size rfl).2.2
      clear hown1 hput hO5 hO hO1 hO2 hb1 y0 y1 y2 y3 f1
      cases fb
      all_goals
        go_wp2_with fail
        go_roundw
        case rel =>
          refine ⟨q, by omega, ?_, ⟨A5, n5, c5, rfl, hn5, ?_⟩, ?_, ?_, below_set HB1.out _ _ (Nat.le_refl _) _⟩
          · rcases q with _ | q''
            · exact .inl ⟨by go_num, rfl⟩
            · exact .inr ⟨q'', rfl, by go_num⟩
          · rw [HDS.out]
            have hon : Only (fun b => b = w.heap.size) w1 (w1.setCell ⟨w.heap.size, q, none⟩ (.slice A6 n6 c6)) := (Only.refl (fun b => b = w.heap.size) w1).set w.heap.size q rfl _
            exact (HO5.out.only hon (fun k h1 h2 h3 => by have h4 : k = w.heap.size := h3; have := HLT.out; omega)).ri.more (by simp [World.setCell])
          · rw [HSS.out]; simp
          · have := HPUT.out
            have e4 := putAt_flat rowF 1 rowF_len (bkP ds rs e (q + 1)) q g (by rw [bkP_len, HL.out]; omega)
            rw [HSET.out] at e4
            simp only [putAt, rowF, Nat.mul_one] at e4
            rw [e4] at this
            simpa [World.setCell] using this
        case measure => (simp [intOf]; try omega)
end Go.Proofs.Ytehfglfbnjdcoaa
