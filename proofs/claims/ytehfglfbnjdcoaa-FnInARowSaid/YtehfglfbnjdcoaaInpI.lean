/-
  The contracts of impl.Inputs.
-/
import Derived.Test.YtehfglfbnjdcoaaJGive
import Derived.Test.YtehfglfbnjdcoaaOpF
import Derived.Test.YtehfglfbnjdcoaaInOfI
import Derived.Test.YtehfglfbnjdcoaaVec
import Derived.WalkKit
import Derived.BigQuiet
import Derived.Deep.DeepMust
import Derived.Deep.RegionHeld3
namespace Go.Proofs.Ytehfglfbnjdcoaa
open Go.RowKit
set_option maxRecDepth 100000

set_option maxHeartbeats 2000000 in
theorem impl_Inputs {B n c B' n' c' : Nat} {A A' : Option Addr} {ds : List OpD} {xs : List Int} (w : World) (h : RL 4 w B A n c (ds.flatMap opF)) (hB : B ≤ w.heap.size) (hn : n ≤ 1048576) (hsm : SmO ds) (h' : RI w B' A' n' c' xs) (hB' : B' ≤ w.heap.size) (hn' : n' ≤ 1048576) :
    Calls Try.prog 40 #[Modv A n c, .slice A' n' c'] w (GiveR w (inpR ds xs) (inpS ds xs)) := by
  have HL := hide (h.row opF_len (by omega))
  have HSM := hide hsm
  have HRS := hide (insR_sm ds xs (by rw [h'.1]; exact hn'))
  clear hsm
  obtain ⟨wb, hwb⟩ : ∃ wb, wb = (w.alloc (.cells #[.slice A n c] 36)) := ⟨_, rfl⟩
  have hb : Below w.heap.size w wb := hwb ▸ (Below.refl _ _).alloc (Nat.le_refl _) _
  have x0 : wb.cell? ⟨w.heap.size, 0, none⟩ = some (.slice A n c) := by rw [hwb]; simp
  have hlt0 : w.heap.size < wb.heap.size := by rw [hwb]; simp
  have hsb := hb.size
  have HW := hide hwb
  clear hwb
  obtain ⟨qm, hqm⟩ : ∃ q, okMd ds = q := ⟨_, rfl⟩
  obtain ⟨a, ha⟩ : ∃ a, mIn ds = a := ⟨_, rfl⟩
  obtain ⟨qx, hqx⟩ : ∃ q, (okV xs && decide ((xs.length : Int) = a)) = q := ⟨_, rfl⟩
  have HXO := hide (show xOk ds xs = (qm && qx) from by rw [xOk, hqm, ha, hqx])
  have HM := hide (hqm ▸ impl_ModelOk wb (h.below (hb.mono hB)) (by omega) hn HSM.out)
  have HI := hide (fun (W : World) (hW : Below w.heap.size w W) => ha ▸ impl_InOf W (h.below (hW.mono hB)) (by have := hW.size; omega) hn HSM.out)
  have HVO := hide (fun (W : World) (hW : Below w.heap.size w W) => hqx ▸ impl_vecOf a W (h'.below (hW.mono hB')) hn')
  have HXR := hide (fun (W : World) (hW : Below w.heap.size w W) => h'.below (hW.mono hB'))
  clear h' hqm ha hqx
  cases qm with
  | false =>
    have HZ := hide (inp_no (ds := ds) (x := xs) (by rw [HXO.out]; rfl))
    clear h
    go_enter Try.func40, Try.ntmps40
    go_wp2_with fail
    rw [← HW.out]
    refine HM.out.mono ?_
    rintro e w1 ⟨rfl, hb1⟩
    go_wp2_with fail
    go_ret2
    exact giveR (rows := inpR ds xs) (s := inpS ds xs) (by rw [HZ.out.1]; rfl) HZ.out.2 rfl (by rw [HZ.out.1]; simpa using OL.nil _ _ _ _ _ _) (hb.trans (hb1.mono hsb))
  | true =>
    go_enter Try.func40, Try.ntmps40
    go_wp2_with fail
    rw [← HW.out]
    refine HM.out.mono ?_
    rintro e w1 ⟨rfl, hb1⟩
    have hbm := hb.trans (hb1.mono hsb)
    replace x0 := cellB hb1 x0
    have hsm1 := hb1.size
    clear hb1 HM
    go_wp2_with fail
    refine (HI.out w1 hbm).mono ?_
    rintro e w2 ⟨rfl, hb2⟩
    have hbm2 := hbm.trans (hb2.mono hbm.size)
    replace x0 := cellB hb2 x0
    have hsm2 := hb2.size
    clear hb2 HI hbm
    go_wp2_with fail
    refine (HVO.out w2 hbm2).mono ?_
    rintro e w' ⟨rfl, rfl⟩
    cases qx with
    | false =>
      have HZ := hide (inp_no (ds := ds) (x := xs) (by rw [HXO.out]; rfl))
      clear h
      go_wp2_with fail
      go_ret2
      exact giveR (rows := inpR ds xs) (s := inpS ds xs) (by rw [HZ.out.1]; rfl) HZ.out.2 rfl (by rw [HZ.out.1]; simpa using OL.nil _ _ _ _ _ _) hbm2
    | true =>
      have HZ := hide (inp_yes (ds := ds) (x := xs) (by rw [HXO.out]; rfl))
      have HBM := hide hbm2
      clear hbm2
      go_wp2_with fail
      refine (impl_copyInts w2 (HXR.out w2 HBM.out) (by have := HBM.out.size; omega) hn').mono ?_
      rintro e w3 ⟨v, rfl, hq⟩
      obtain ⟨A3, n3, c3, rfl, hO, hb3⟩ := newI hq
      clear hq
      have hbm3 := HBM.out.trans (hb3.mono HBM.out.size)
      replace x0 := cellB hb3 x0
      have x0a := fun o => cellB ((Below.refl _ _).alloc (Nat.le_refl _) o) x0
      have hle2 : w.heap.size ≤ w2.heap.size := HBM.out.size
      have hs3 := hb3.size
      have HOW : Hid (OwRows (w3.alloc (.cells #[.slice A3 n3 c3] 90)) w.heap.size (w3.alloc (.cells #[.slice A3 n3 c3] 90)).heap.size (.slice (some ⟨w3.heap.size, 0, none⟩) 1 1) 1 (((insR ds xs).take (0 + 1)).flatMap rowF)) := hide (by
        have e1 : ((insR ds xs).take (0 + 1)).flatMap rowF = [.s xs] := by cases ds <;> rfl
        rw [e1]
        exact (OL.lit1 (us := [.slice A3 n3 c3]) (FOs.one (FO.of_oi hO)) (by omega) (Nat.le_refl _) rfl).more hle2 (by simp))
      have HBW : Hid (Below w.heap.size w (w3.alloc (.cells #[.slice A3 n3 c3] 90))) := hide (hbm3.alloc (by have := hbm3.size; omega) _)
      clear hO hb3 hbm3
      go_wp2_with fail
      clear x0 x0a
      go_loopw [6, 7, 29] (fun v fl i wr => ∃ k : Nat, k ≤ n ∧ i = .int .i64 (k : Int) ∧ (∃ A1 c1, v = .slice A1 (k + 1) c1 ∧ OwRows wr w.heap.size wr.heap.size (.slice A1 (k + 1) c1) (k + 1) (((insR ds xs).take (k + 1)).flatMap rowF)) ∧ fl = .bool (((insB ds xs).take k).any id) ∧ Below w.heap.size w wr)
        (fun _ _ i _ => n - (intOf i).toNat)
      case atStart => exact ⟨0, Nat.zero_le _, rfl, ⟨_, _, rfl, HOW.out⟩, rfl, HBW.out⟩
      case round =>
        obtain ⟨k, hk, rfl, ⟨A1, c1, rfl, hown⟩, rfl, hb⟩ := hrel
        have hsz := hb.size
        clear HOW HBW
        by_cases hlt : k < n
        · obtain ⟨b, off, d, A2, n2, c2, rfl, hbB, hd, e0, e1, e2, e3, hR⟩ := h.opAt hlt
          obtain ⟨b3, off3, r, A3, n3, c3, rfl, hb3, hr, f0, hR3⟩ := hown.rl.rowAt (j := k) (by omega)
          have hr : (insR ds xs)[k]? = some r := by rw [List.getElem?_take_of_lt (by omega)] at hr; exact hr
          have hbk : b < w.heap.size := by omega
          have hrs := HRS.out k r hr
          have hsd := HSM.out k d hd
          rw [hR3.1] at hrs
          rw [hR.1] at hsd
          have h1 : (0 : Int) ≤ (k : Int) := by omega
          have h2 : (k : Int) < (n : Int) := by omega
          have h3 : (k : Int) < (k : Int) + 1 := by omega
          have HV := hide (insR_take hd hr)
          obtain ⟨y, hy⟩ : ∃ y, fw d r = y := ⟨_, rfl⟩
          obtain ⟨s, hs⟩ : ∃ s, fwS d r = s := ⟨_, rfl⟩
          obtain ⟨fb, hfb⟩ : ∃ fb, ((insB ds xs).take k).any id = fb := ⟨_, rfl⟩
          have HS := hide (show ((insB ds xs).take (k + 1)).any id = (fb || s) from by rw [insB_take hd hr, hfb, hs])
          rw [hy] at HV
          rw [hfb]
          have z0 := (hb.cell (p := ⟨b, off + k * 4, none⟩) hbk).trans e0
          have z1 := (hb.cell (p := ⟨b, off + k * 4 + 1, none⟩) hbk).trans e1
          have z2 := (hb.cell (p := ⟨b, off + k * 4 + 2, none⟩) hbk).trans e2
          have z3 := (hb.cell (p := ⟨b, off + k * 4 + 3, none⟩) hbk).trans e3
          obtain ⟨wq, hwq⟩ : ∃ W, W = wr.alloc (.cells #[.int .i64 d.k, .int .i64 d.i, .int .i64 d.o, .slice A2 n2 c2] 52) := ⟨_, rfl⟩
          have hbq : Below wr.heap.size wr wq := hwq ▸ (Below.refl _ _).alloc (Nat.le_refl _) _
          have y0 : wq.cell? ⟨wr.heap.size, 0, none⟩ = some (.int .i64 d.k) := by rw [hwq]; simp
          have y1 : wq.cell? ⟨wr.heap.size, 1, none⟩ = some (.int .i64 d.i) := by rw [hwq]; simp
          have y2 : wq.cell? ⟨wr.heap.size, 2, none⟩ = some (.int .i64 d.o) := by rw [hwq]; simp
          have y3 : wq.cell? ⟨wr.heap.size, 3, none⟩ = some (.slice A2 n2 c2) := by rw [hwq]; simp
          have f1 := cellB hbq f0
          have HWQ := hide hwq
          have f0a := fun o => cellB ((Below.refl _ _).alloc (Nat.le_refl _) o) f0
          clear hwq
          have sq := hbq.size
          have hbwq := hb.trans (hbq.mono hsz)
          have hOP := impl_OpForward d.k d.i d.o wq.drew (B := B) (B' := wq.heap.size) (hR.below (hbwq.mono hB)).drew ((hR3.below hbq).more (by omega)).drew (by show B ≤ wq.heap.size; omega) (by exact Nat.le_refl _) hsd hrs
          rw [show (⟨d.k, d.i, d.o, d.p⟩ : OpD) = d from rfl, hy, hs] at hOP
          have HOP := hide hOP
          have HOWN := hide ((hown.below hbq).more (Nat.le_refl _) sq)
          have HBQ := hide hbwq
          clear hOP e0 e1 e2 e3 hR hR3 hown hd hr hy hs hfb f0 hb h hbq hbwq
          cases fb
          all_goals
            go_wp2_with fail
            rw [← HWQ.out]
            clear z0 z1 z2 z3 f0a
            have gate0 : True := trivial
            go_region_held3 (fun W => W.cell? ⟨wr.heap.size, 0, none⟩ = some (.int .i64 d.k) ∧ W.cell? ⟨wr.heap.size, 1, none⟩ = some (.int .i64 d.i) ∧ W.cell? ⟨wr.heap.size, 2, none⟩ = some (.int .i64 d.o) ∧ W.cell? ⟨wr.heap.size, 3, none⟩ = some (.slice A2 n2 c2) ∧ W.cell? ⟨b3, off3 + k, none⟩ = some (.slice A3 n3 c3)) (first | exact ⟨y0, y1, y2, y3, f1⟩) (first
              | (clear gate0; go_at_call 31; refine HOP.out.mono ?_; rintro e w1 ⟨v, rfl, hq⟩; obtain ⟨A4, n4, c4, rfl, hO, hb1⟩ := newI hq; have hb1 : Below wq.heap.size wq w1 := undrew hb1; have hO : OwI w1 wq.heap.size w1.heap.size (.slice A4 n4 c4) y := hO; clear hq; replace y0 := cellB hb1 y0; replace y1 := cellB hb1 y1; replace y2 := cellB hb1 y2; replace y3 := cellB hb1 y3; replace f1 := cellB hb1 f1))
            have hs1 := hb1.size
            have HO1 := hide (HOWN.out.below hb1)
            have HU := hide (FOs.one (FO.of_oi hO))
            have HB1 := hide (HBQ.out.trans (hb1.mono HBQ.out.size))
            have gate0 : True := trivial
            have hle : w.heap.size ≤ wq.heap.size := HBQ.out.size
            clear hO hb1 y0 y1 y2 y3 f1
            go_wp2_with (first
              | (at_builtin; clear gate0; go_must (refine wpList_pushL w1 [.slice A4 n4 c4] [.s y] rfl (.tmp 44) (.tmp 47) _ rfl 3 90 1 24 _ Try.underlying30 row_info rfl (by omega) (by omega) rfl HO1.out HU.out rfl rfl hle (by omega) (by omega) ?_); intro A5 c5 w2 hO3 hon _; have hne : ∀ q, (Value.slice (some ⟨b3, off3, none⟩) (k + 1) c1).ownBlock = some q → w.heap.size ≤ q := (fun q hq => (HO1.out.lt q hq).1); have HO3 := hide hO3; have HB2 := hide (HB1.out.trans (hon.below (B := w.heap.size) (by omega) (fun q hq h3 => by have := hne _ h3; omega))); clear hO3 hon hne))
            go_roundw
            case rel => exact ⟨k + 1, by omega, by go_num, ⟨A5, c5, rfl, by rw [HV.out]; exact HO3.out⟩, by rw [HS.out]; simp, HB2.out⟩
            case measure => simp [intOf]; omega
        · obtain rfl : k = n := by omega
          have HOW := hide hown
          have hge : ¬ (k : Int) < (k : Int) := by omega
          clear hown h
          go_wp2_with fail
          go_ret2
          exact giveR (rows := inpR ds xs) (s := inpS ds xs) (by rw [HZ.out.1, insR_len, HL.out]) (by rw [HZ.out.2, ← insB_any, List.take_of_length_le (by rw [insB_len, HL.out]; exact Nat.le_refl _)]) rfl (by rw [HZ.out.1]; have := HOW.out; rw [List.take_of_length_le (by rw [insR_len, HL.out]; exact Nat.le_refl _)] at this; exact this) hb
end Go.Proofs.Ytehfglfbnjdcoaa
