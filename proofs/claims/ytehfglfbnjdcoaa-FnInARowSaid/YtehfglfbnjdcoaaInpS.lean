/-
  The contracts of spec.Inputs.
-/
import Derived.Test.YtehfglfbnjdcoaaJGive
import Derived.Test.YtehfglfbnjdcoaaOpF
import Derived.Test.YtehfglfbnjdcoaaInOfS
import Derived.Test.YtehfglfbnjdcoaaVec
import Derived.WalkKit
import Derived.BigQuiet
import Derived.Deep.DeepMust
import Derived.Deep.RegionHeld3
namespace Go.Proofs.Ytehfglfbnjdcoaa
open Go.RowKit
set_option maxRecDepth 100000

set_option maxHeartbeats 2000000 in
theorem spec_l7Inputs {B n c B' n' c' : Nat} {A A' : Option Addr} {ds : List OpD} {xs : List Int} (w : World) (h : RL 4 w B A n c (ds.flatMap opF)) (hB : B ≤ w.heap.size) (hn : n ≤ 1048576) (hsm : SmO ds) (h' : RI w B' A' n' c' xs) (hB' : B' ≤ w.heap.size) (hn' : n' ≤ 1048576) :
    Calls Try.prog 74 #[.slice A n c, .slice A' n' c'] w (GiveR w (insR ds xs) (insS ds xs)) := by
  have HL := hide (h.row opF_len (by omega))
  have HSM := hide hsm
  have HRS := hide (insR_sm ds xs (by rw [h'.1]; exact hn'))
  have HX := hide h'
  clear hsm h'
  go_enter Try.func74, Try.ntmps74
  have gate0 : True := trivial
  go_wp2_with (first
    | (at_builtin; clear gate0; go_must (refine wpList_copy w rfl (.tmp 11) (.tmp 12) _ rfl 3 _ Try.underlying25 int_info rfl rfl rfl HX.out hB' hn' ?_); intro A3 n3 c3 w3 hO hb3; have HO := hide hO; have HB3 := hide hb3; clear hO hb3))
  have hs3 := HB3.out.size
  have HOW : Hid (OwRows (w3.alloc (.cells #[.slice A3 n3 c3] 90)) w.heap.size (w3.alloc (.cells #[.slice A3 n3 c3] 90)).heap.size (.slice (some ⟨w3.heap.size, 0, none⟩) 1 1) 1 (((insR ds xs).take (0 + 1)).flatMap rowF)) := hide (by
    have e1 : ((insR ds xs).take (0 + 1)).flatMap rowF = [.s xs] := by cases ds <;> rfl
    rw [e1]
    exact (OL.lit1 (us := [.slice A3 n3 c3]) (FOs.one (FO.of_oi HO.out)) (by omega) (Nat.le_refl _) rfl).more (Nat.le_refl _) (by simp))
  have HBW : Hid (Below w.heap.size w (w3.alloc (.cells #[.slice A3 n3 c3] 90))) := hide (HB3.out.alloc (by omega) _)
  go_loopw [6, 7, 8] (fun v fl i wr => ∃ k : Nat, k ≤ n ∧ i = .int .i64 (k : Int) ∧ (∃ A1 c1, v = .slice A1 (k + 1) c1 ∧ OwRows wr w.heap.size wr.heap.size (.slice A1 (k + 1) c1) (k + 1) (((insR ds xs).take (k + 1)).flatMap rowF)) ∧ fl = .bool (((insB ds xs).take k).any id) ∧ Below w.heap.size w wr)
    (fun _ _ i _ => n - (intOf i).toNat)
  case atStart => exact ⟨0, Nat.zero_le _, rfl, ⟨_, _, rfl, HOW.out⟩, rfl, HBW.out⟩
  case round =>
    obtain ⟨k, hk, rfl, ⟨A1, c1, rfl, hown⟩, rfl, hb⟩ := hrel
    have hsz := hb.size
    clear HOW HBW
    by_cases hlt : k < n
    · obtain ⟨b, off, d, A2, n2, c2, rfl, hbB, hd, e0, e1, e2, e3, hR⟩ := h.opAt hlt
      obtain ⟨b3, off3, r, A3, n3, c3, rfl, hb3, hr, f0, hR3⟩ := hown.rl.rowAt (j := k) (by omega)
      have hr : (insR ds xs)[k]? = some r := by rw [List.getElem?_take_of_lt (by omega)] at hr; exact hr
      have hbk : b < w.heap.size := by omega
      have hrs := HRS.out k r hr
      have hsd := HSM.out k d hd
      rw [hR3.1] at hrs
      rw [hR.1] at hsd
      have h1 : (0 : Int) ≤ (k : Int) := by omega
      have h2 : (k : Int) < (n : Int) := by omega
      have h3 : (k : Int) < (k : Int) + 1 := by omega
      have HV := hide (insR_take hd hr)
      obtain ⟨y, hy⟩ : ∃ y, fw d r = y := ⟨_, rfl⟩
      obtain ⟨s, hs⟩ : ∃ s, fwS d r = s := ⟨_, rfl⟩
      obtain ⟨fb, hfb⟩ : ∃ fb, ((insB ds xs).take k).any id = fb := ⟨_, rfl⟩
      have HS := hide (show ((insB ds xs).take (k + 1)).any id = (fb || s) from by rw [insB_take hd hr, hfb, hs])
      rw [hy] at HV
      rw [hfb]
      have z0 := (hb.cell (p := ⟨b, off + k * 4, none⟩) hbk).trans e0
      have z1 := (hb.cell (p := ⟨b, off + k * 4 + 1, none⟩) hbk).trans e1
      have z2 := (hb.cell (p := ⟨b, off + k * 4 + 2, none⟩) hbk).trans e2
      have z3 := (hb.cell (p := ⟨b, off + k * 4 + 3, none⟩) hbk).trans e3
      have hbq : Below wr.heap.size wr wr := Below.refl _ _
      have y0 := z0
      have y1 := z1
      have y2 := z2
      have y3 := z3
      have f1 := f0
      have sq := hbq.size
      have hbwq := hb.trans (hbq.mono hsz)
      have hOP := spec_OpForward d.k d.i d.o wr.drew (B := B) (B' := wr.heap.size) (hR.below (hbwq.mono hB)).drew ((hR3.below hbq).more (by omega)).drew (by show B ≤ wr.heap.size; omega) (by exact Nat.le_refl _) hsd hrs
      rw [show (⟨d.k, d.i, d.o, d.p⟩ : OpD) = d from rfl, hy, hs] at hOP
      have HOP := hide hOP
      have HOWN := hide ((hown.below hbq).more (Nat.le_refl _) sq)
      have HBQ := hide hbwq
      clear hOP e0 e1 e2 e3 hR hR3 hown hd hr hy hs hfb f0 hb h hbq hbwq z0 z1 z2 z3
      cases fb
      all_goals
        go_wp2_with fail
        have gate0 : True := trivial
        go_region_held3 (fun W => W.cell? ⟨b, off + k * 4, none⟩ = some (.int .i64 d.k) ∧ W.cell? ⟨b, off + k * 4 + 1, none⟩ = some (.int .i64 d.i) ∧ W.cell? ⟨b, off + k * 4 + 2, none⟩ = some (.int .i64 d.o) ∧ W.cell? ⟨b, off + k * 4 + 3, none⟩ = some (.slice A2 n2 c2) ∧ W.cell? ⟨b3, off3 + k, none⟩ = some (.slice A3 n3 c3)) (first | exact ⟨y0, y1, y2, y3, f1⟩) (first
          | (clear gate0; go_at_call 28; refine HOP.out.mono ?_; rintro e w1 ⟨v, rfl, hq⟩; obtain ⟨A4, n4, c4, rfl, hO, hb1⟩ := newI hq; have hb1 : Below wr.heap.size wr w1 := undrew hb1; have hO : OwI w1 wr.heap.size w1.heap.size (.slice A4 n4 c4) y := hO; clear hq; replace y0 := cellB hb1 y0; replace y1 := cellB hb1 y1; replace y2 := cellB hb1 y2; replace y3 := cellB hb1 y3; replace f1 := cellB hb1 f1))
        have hs1 := hb1.size
        have HO1 := hide (HOWN.out.below hb1)
        have HU := hide (FOs.one (FO.of_oi hO))
        have HB1 := hide (HBQ.out.trans (hb1.mono HBQ.out.size))
        have gate0 : True := trivial
        have hle : w.heap.size ≤ wr.heap.size := HBQ.out.size
        clear hO hb1 y0 y1 y2 y3 f1
        go_wp2_with (first
          | (at_builtin; clear gate0; go_must (refine wpList_pushL w1 [.slice A4 n4 c4] [.s y] rfl (.tmp 35) (.tmp 38) _ rfl 3 90 1 24 _ Try.underlying30 row_info rfl (by omega) (by omega) rfl HO1.out HU.out rfl rfl hle (by omega) (by omega) ?_); intro A5 c5 w2 hO3 hon _; have hne : ∀ q, (Value.slice (some ⟨b3, off3, none⟩) (k + 1) c1).ownBlock = some q → w.heap.size ≤ q := (fun q hq => (HO1.out.lt q hq).1); have HO3 := hide hO3; have HB2 := hide (HB1.out.trans (hon.below (B := w.heap.size) (by omega) (fun q hq h3 => by have := hne _ h3; omega))); clear hO3 hon hne))
        go_roundw
        case rel => exact ⟨k + 1, by omega, by go_num, ⟨A5, c5, rfl, by rw [HV.out]; exact HO3.out⟩, by rw [HS.out]; simp, HB2.out⟩
        case measure => simp [intOf]; omega
    · obtain rfl : k = n := by omega
      have HOW := hide hown
      have hge : ¬ (k : Int) < (k : Int) := by omega
      clear hown h
      go_wp2_with fail
      go_ret2
      exact giveR (rows := insR ds xs) (s := insS ds xs) (by rw [insR_len, HL.out]) (by rw [← insB_any, List.take_of_length_le (by rw [insB_len, HL.out]; exact Nat.le_refl _)]) rfl (by have := HOW.out; rw [List.take_of_length_le (by rw [insR_len, HL.out]; exact Nat.le_refl _)] at this; exact this) hb
set_option maxHeartbeats 2000000 in
theorem spec_Inputs {B n c B' n' c' : Nat} {A A' : Option Addr} {ds : List OpD} {xs : List Int} (w : World) (h : RL 4 w B A n c (ds.flatMap opF)) (hB : B ≤ w.heap.size) (hn : n ≤ 1048576) (hsm : SmO ds) (h' : RI w B' A' n' c' xs) (hB' : B' ≤ w.heap.size) (hn' : n' ≤ 1048576) :
    Calls Try.prog 39 #[Modv A n c, .slice A' n' c'] w (GiveR w (inpR ds xs) (inpS ds xs)) := by
  obtain ⟨wb, hwb⟩ : ∃ wb, wb = (w.alloc (.cells #[.slice A n c] 36)) := ⟨_, rfl⟩
  have hb : Below w.heap.size w wb := hwb ▸ (Below.refl _ _).alloc (Nat.le_refl _) _
  have x0 : wb.cell? ⟨w.heap.size, 0, none⟩ = some (.slice A n c) := by rw [hwb]; simp
  have hsb := hb.size
  have HW := hide hwb
  clear hwb
  obtain ⟨qm, hqm⟩ : ∃ q, okMd ds = q := ⟨_, rfl⟩
  obtain ⟨a, ha⟩ : ∃ a, mIn ds = a := ⟨_, rfl⟩
  obtain ⟨qv, hqv⟩ : ∃ q, okV xs = q := ⟨_, rfl⟩
  obtain ⟨ql, hql⟩ : ∃ q, decide ((n' : Int) = a) = q := ⟨_, rfl⟩
  have hne : ((n' : Int) != a) = !ql := by rw [← hql]; by_cases hh : (n' : Int) = a <;> simp [hh]
  have HXO := hide (show xOk ds xs = (qm && (qv && ql)) from by rw [xOk, hqm, ha, hqv, h'.1, hql])
  have HM := hide (hqm ▸ spec_ModelOk wb (h.below (hb.mono hB)) (by omega) hn hsm)
  have HI := hide (fun (W : World) (hW : Below w.heap.size w W) => ha ▸ spec_InOf W (h.below (hW.mono hB)) (by have := hW.size; omega) hn hsm)
  have HVO := hide (fun (W : World) (hW : Below w.heap.size w W) => hqv ▸ spec_VecOk W (h'.below (hW.mono hB')) hn')
  have HIN := hide (fun (W : World) (hW : Below w.heap.size w W) => spec_l7Inputs W (h.below (hW.mono hB)) (by have := hW.size; omega) hn hsm (h'.below (hW.mono hB')) (by have := hW.size; omega) hn')
  clear h' hqm ha hqv hql h hsm hB hB' hn hn'
  have HOUT : Hid (∀ (W : World) (A : Option Addr) (c : Nat) (hW : Below w.heap.size w W) (hx : xOk ds xs = false), GiveR w (inpR ds xs) (inpS ds xs) (.returned (.tuple #[.slice (some ⟨W.heap.size, 0, none⟩) 0 0, .bool false])) (W.alloc (.cells #[] 90))) := hide (fun W A c hW hx => by
    have HZ := inp_no hx
    exact giveR (rows := inpR ds xs) (s := inpS ds xs) (by rw [HZ.1]; rfl) HZ.2 rfl (by rw [HZ.1]; exact (OL.empty 3 90 1 W).more hW.size (by simp)) (hW.alloc hW.size _))
  cases qm
  case false =>
    go_enter Try.func39, Try.ntmps39
    go_wp2_with fail
    rw [← HW.out]
    refine HM.out.mono ?_
    rintro e w1 ⟨rfl, hb1⟩
    go_wp2_with fail
    go_ret2
    exact HOUT.out _ none 0 (hb.trans (hb1.mono hsb)) (by rw [HXO.out]; rfl)
  go_enter Try.func39, Try.ntmps39
  go_wp2_with fail
  rw [← HW.out]
  refine HM.out.mono ?_
  rintro e w1 ⟨rfl, hb1⟩
  have hbm := hb.trans (hb1.mono hsb)
  replace x0 := cellB hb1 x0
  clear hb1 HM
  go_wp2_with fail
  refine (HVO.out w1 hbm).mono ?_
  rintro e w' ⟨rfl, rfl⟩
  cases qv
  case false =>
    go_wp2_with fail
    go_ret2
    exact HOUT.out _ none 0 hbm (by rw [HXO.out]; rfl)
  go_wp2_with fail
  refine (HI.out w1 hbm).mono ?_
  rintro e w2 ⟨rfl, hb2⟩
  have hbm2 := hbm.trans (hb2.mono hbm.size)
  replace x0 := cellB hb2 x0
  clear hb2 HI
  cases ql
  case false =>
    simp only [Bool.not_false] at hne
    go_wp2_with fail
    go_ret2
    exact HOUT.out _ none 0 hbm2 (by rw [HXO.out]; rfl)
  simp only [Bool.not_true] at hne
  go_wp2_with fail
  refine (HIN.out w2 hbm2).mono ?_
  rintro e w3 ⟨A3, c3, rfl, hO, hb3⟩
  have HZ := hide (inp_yes (ds := ds) (x := xs) (by rw [HXO.out]; rfl))
  have HB := hide (hbm2.trans (hb3.mono hbm2.size))
  have HO := hide hO
  have hle := hbm2.size
  clear hO hb3 hbm2
  go_wp2_with fail
  go_ret2
  exact giveR (rows := inpR ds xs) (s := inpS ds xs) (by rw [HZ.out.1]) HZ.out.2 rfl (by rw [HZ.out.1]; exact HO.out.more hle (Nat.le_refl _)) HB.out
end Go.Proofs.Ytehfglfbnjdcoaa
