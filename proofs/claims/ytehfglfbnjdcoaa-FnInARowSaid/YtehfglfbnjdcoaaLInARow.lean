/-
  PROVED HERE: the law 'laws.FnInARow' returns true and leaves its arguments as they were, for every input, without a condition.
-/
import Derived.Test.YtehfglfbnjdcoaaRows
import Derived.Test.YtehfglfbnjdcoaaFrame
import Derived.Test.YtehfglfbnjdcoaaJOpen
import Derived.Test.YtehfglfbnjdcoaaJDrawB
import Derived.Test.YtehfglfbnjdcoaaJPlainZ
import Derived.Test.YtehfglfbnjdcoaaJGrad
import Derived.Test.YtehfglfbnjdcoaaSeqI
import Derived.Test.YtehfglfbnjdcoaaBatchS
import Derived.WalkKit
import Derived.Deep.RegionHeld3
import Derived.ProofKit
import Derived.OpenShut
namespace Go.Proofs.Ytehfglfbnjdcoaa.fnInARow
open Go.ChangeShapes Go.WideShapes Go.ChangeAt Go.RowKit
set_option maxRecDepth 100000
open Go.ChangeMaps (open_string)
set_option linter.unusedVariables false
theorem cells_u8 : Try.prog.cellsOf 5 = 1 := by kernel_rfl
theorem keepA3 {w : World} {p1 p2 p3 : Addr} {x1 x2 x3 : Value} (h : w.cell? p1 = some x1 ∧ w.cell? p2 = some x2 ∧ w.cell? p3 = some x3) (o : Obj) : (w.alloc o).cell? p1 = some x1 ∧ (w.alloc o).cell? p2 = some x2 ∧ (w.alloc o).cell? p3 = some x3 :=
  ⟨cellB ((Below.refl _ _).alloc (Nat.le_refl _) o) h.1, cellB ((Below.refl _ _).alloc (Nat.le_refl _) o) h.2.1, cellB ((Below.refl _ _).alloc (Nat.le_refl _) o) h.2.2⟩
theorem keepB3 {w w' : World} {p1 p2 p3 : Addr} {x1 x2 x3 : Value} (hb : Below w.heap.size w w') (h : w.cell? p1 = some x1 ∧ w.cell? p2 = some x2 ∧ w.cell? p3 = some x3) : w'.cell? p1 = some x1 ∧ w'.cell? p2 = some x2 ∧ w'.cell? p3 = some x3 :=
  ⟨cellB hb h.1, cellB hb h.2.1, cellB hb h.2.2⟩
theorem keepS3 {w : World} {X : Nat} {p1 p2 p3 : Addr} {x1 x2 x3 : Value} (v0 v1 v2 : Value) (h : w.cell? p1 = some x1 ∧ w.cell? p2 = some x2 ∧ w.cell? p3 = some x3) (h1 : X ≠ p1.block) (h2 : X ≠ p2.block) (h3 : X ≠ p3.block) :
    (((w.setCell ⟨X, 0, none⟩ v0).setCell ⟨X, 1, none⟩ v1).setCell ⟨X, 2, none⟩ v2).cell? p1 = some x1 ∧ (((w.setCell ⟨X, 0, none⟩ v0).setCell ⟨X, 1, none⟩ v1).setCell ⟨X, 2, none⟩ v2).cell? p2 = some x2 ∧ (((w.setCell ⟨X, 0, none⟩ v0).setCell ⟨X, 1, none⟩ v1).setCell ⟨X, 2, none⟩ v2).cell? p3 = some x3 :=
  ⟨keep3 h.1 h1, keep3 h.2.1 h2, keep3 h.2.2 h3⟩
/-- the gradients of one micro-batch lie in a box: 'X' -/
structure Boxed (w W : World) (X : Nat) (A : Option Addr) (n c : Nat) (xr : List (List Int)) (xl : Int) (xs : Bool) : Prop where
  lo : w.heap.size ≤ X
  hi : X < W.heap.size
  blk : W.heap[X]? = some (.cells #[.slice A n c, .int .i64 xl, .bool xs] 32 (0, 0))
  rows : RL 1 W W.heap.size A n c (xr.flatMap rowF)
  below : Below w.heap.size w W
theorem boxedA {w w5 : World} {A : Option Addr} {n c : Nat} {xr : List (List Int)} {xl : Int} {xs : Bool} (h : OwRows w5 w.heap.size w5.heap.size (.slice A n c) n (xr.flatMap rowF)) (hb : Below w.heap.size w w5) :
    Boxed w (w5.alloc (.cells #[.slice A n c, .int .i64 xl, .bool xs] 32)) w5.heap.size A n c xr xl xs := by
  have ha : Below w5.heap.size w5 (w5.alloc (.cells #[.slice A n c, .int .i64 xl, .bool xs] 32)) := (Below.refl _ _).alloc (Nat.le_refl _) _
  exact ⟨hb.size, by simp, heap_alloc_new _ _, ((h.below ha).rl).more (by simp), hb.trans (ha.mono hb.size)⟩
theorem boxedB {w wz w5 : World} {A : Option Addr} {n c : Nat} {xr : List (List Int)} {xl : Int} {xs : Bool} (hz : Below w.heap.size w wz) (sz : wz.heap.size = w.heap.size + 1) (pz : wz.heap[w.heap.size]? = some (.cells #[.slice none 0 0, .int .i64 0, .bool false] 32 (0, 0)))
    (h : OwRows w5 wz.heap.size w5.heap.size (.slice A n c) n (xr.flatMap rowF)) (hb : Below wz.heap.size wz w5) :
    Boxed w (((w5.setCell ⟨w.heap.size, 0, none⟩ (.slice A n c)).setCell ⟨w.heap.size, 1, none⟩ (.int .i64 xl)).setCell ⟨w.heap.size, 2, none⟩ (.bool xs)) w.heap.size A n c xr xl xs := by
  have hset : Only (fun b => b = w.heap.size) w5 (((w5.setCell ⟨w.heap.size, 0, none⟩ (.slice A n c)).setCell ⟨w.heap.size, 1, none⟩ (.int .i64 xl)).setCell ⟨w.heap.size, 2, none⟩ (.bool xs)) := (((Only.refl (fun b => b = w.heap.size) w5).set w.heap.size 0 rfl _).set w.heap.size 1 rfl _).set w.heap.size 2 rfl _
  have hs := hset.size
  have h5 := hb.size
  exact ⟨Nat.le_refl _, by omega, blk_set (blk_set (blk_set ((hb.block w.heap.size (by omega)).trans pz) 0 _) 1 _) 2 _, ((h.only hset (fun q h1 h2 h3 => by have h4 : q = w.heap.size := h3; omega)).rl).more hs, (hz.trans (hb.mono (by omega))).trans (hset.below (B := w.heap.size) (by omega) (fun q hq h3 => by have h4 : q = w.heap.size := h3; omega))⟩
set_option maxHeartbeats 16000000 in
set_option maxRecDepth 100000 in
theorem walk (w : World) {A0 : Option Addr} {n0 c0 : Nat} (hC0 : (n0 : Int) ≤ 1048576 → BA w w.heap.size A0 n0 c0) : Calls Try.prog 11 #[.slice A0 n0 c0] w fun e w' => e = .returned (.bool true) ∧ Below w.heap.size w w' := by
  by_cases hL : (1048576 : Int) < (n0 : Int)
  · go_enter Try.func11, Try.ntmps11
    go_wp2_with fail
    refine (laws_big_yes _ _ _ w hL).mono ?_
    rintro e w' ⟨rfl, rfl⟩
    go_wp2_with fail
    go_ret
    exact ⟨rfl, Below.refl _ _⟩
  have hb0 := hide (hC0 (by omega))
  have HL := hide (show (n0 : Int) ≤ 1048576 by omega)
  clear hC0 hL
  go_enter Try.func11, Try.ntmps11
  go_wp2_with fail
  refine (laws_big_no _ _ _ w HL.out).mono ?_
  rintro e w' ⟨rfl, rfl⟩
  go_wp2_with fail
  refine (spec_DrawSequential w hb0.out (Nat.le_refl _)).mono ?_
  rintro e w1 ⟨A1, n1, c1, ds, A2, n2, c2, ps, rfl, hn1, hn2, hds, hps, hR, hP, hb1⟩
  have hs1 := hb1.size
  have hnl := hR.row opF_len (by omega)
  have hpl := hP.row prF_len (by omega)
  have HDS := hide hds
  have HPS := hide hps
  obtain ⟨w2, hw2⟩ : ∃ W, W = w1.alloc (.cells #[.slice A1 n1 c1] 36) := ⟨_, rfl⟩
  have hb2 : Below w1.heap.size w1 w2 := hw2 ▸ (Below.refl _ _).alloc (Nat.le_refl _) _
  have hs2 : w1.heap.size < w2.heap.size := by rw [hw2]; simp
  have m0 : w2.cell? ⟨w1.heap.size, 0, none⟩ = some (.slice A1 n1 c1) := by rw [hw2]; simp
  have HW2 := hide hw2
  have HB2 := hide (hb1.trans (hb2.mono hs1))
  have H12 := hide hb2
  have HR := hide (fun (W : World) (hW : Below w1.heap.size w1 W) => hR.below hW)
  have HP := hide (fun (W : World) (hW : Below w1.heap.size w1 W) => hP.below hW)
  have HNL := hide hnl
  have HPL := hide hpl
  clear hw2 hb1 hb2 hR hP hds hps hnl hpl
  obtain ⟨bq, hbq⟩ : ∃ q, okBatch ds ps = q := ⟨_, rfl⟩
  obtain ⟨⟨sr, sl, ss⟩, hsq⟩ : ∃ g, seqG ds ps = g := ⟨_, rfl⟩
  obtain ⟨ns, hns⟩ : ∃ n, sr.length = n := ⟨_, rfl⟩
  have hsms : SmG 8 36 sr := by have := seqG_sm ds ps; rw [hsq] at this; exact this
  have C1 := hide (flatGn (impl_Sequential w2 (HR.out w2 H12.out) H12.out.size (by omega) HDS.out.smO (HP.out w2 H12.out) H12.out.size (by omega) HPS.out.smP) hsq hns)
  have C2 := hide (fun (W : World) (hW : Below w1.heap.size w1 W) => hbq ▸ spec_BatchOk W (HR.out W hW) hW.size (by omega) HDS.out.smO (HP.out W hW) hW.size (by omega) HPS.out.smP)
  have hns8 : ns ≤ 8 := by rw [← hns]; exact hsms.1
  have HSMS := hide hsms
  have HNS := hide hns
  have HSQ := hide hsq
  have HBQ := hide hbq
  clear hsms hns hsq hbq
  go_wp2_with fail
  rw [← HW2.out]
  refine C1.out.mono ?_
  rintro e w3 ⟨A3, c3, rfl, hO3, hb3⟩
  have hs3 := hb3.size
  have m0a := fun o => cellB ((Below.refl _ _).alloc (Nat.le_refl _) o) (cellB hb3 m0)
  obtain ⟨w4, hw4⟩ : ∃ W, W = w3.alloc (.cells #[.slice A3 ns c3, .int .i64 sl, .bool ss] 32) := ⟨_, rfl⟩
  have hb4 : Below w3.heap.size w3 w4 := hw4 ▸ (Below.refl _ _).alloc (Nat.le_refl _) _
  have s4 : w3.heap.size < w4.heap.size := by rw [hw4]; simp
  have pg4 : w4.heap[w3.heap.size]? = some (.cells #[.slice A3 ns c3, .int .i64 sl, .bool ss] 32 (0, 0)) := by rw [hw4]; exact heap_alloc_new _ _
  have HW4 := hide hw4
  have HB4 := hide ((HB2.out.trans (hb3.mono HB2.out.size)).trans (hb4.mono (by have := HB2.out.size; omega)))
  have H14 := hide ((H12.out.trans (hb3.mono (by omega))).trans (hb4.mono (by omega)))
  replace m0 := cellB hb4 (cellB hb3 m0)
  have HO4 := hide (hO3.below hb4).rl
  have g0 := blk_cell pg4 0
  have g1 := blk_cell pg4 1
  have g2 := blk_cell pg4 2
  simp at g0 g1 g2
  clear hw4 hb3 hb4 hO3 HB2 H12 C1 pg4
  go_wp2_with fail
  rw [← HW4.out]
  refine (C2.out w4 H14.out).mono ?_
  rintro e w5 ⟨rfl, hb5⟩
  clear m0a
  have hs5 := hb5.size
  have HB5 := hide (HB4.out.trans (hb5.mono HB4.out.size))
  have H15 := hide (H14.out.trans (hb5.mono H14.out.size))
  replace m0 := cellB hb5 m0
  replace g0 := cellB hb5 g0
  replace g1 := cellB hb5 g1
  replace g2 := cellB hb5 g2
  have HO5 := hide (HO4.out.below (hb5.mono (show w3.heap.size ≤ w4.heap.size by omega)))
  clear hb5 HB4 H14 HO4 C2
  cases bq with
  | false =>
    have hno := seqG_no (ds := ds) (ps := ps) HBQ.out
    rw [HSQ.out] at hno
    obtain ⟨h1, h2, h3⟩ : sr = [] ∧ sl = 0 ∧ ss = false := by
      injection hno with h1 h2 h3
      exact ⟨h1, h2, h3⟩
    have hns0 : ns = 0 := by rw [← HNS.out, h1]; rfl
    subst hns0
    subst h2
    subst h3
    clear hno h1
    go_wp2_with fail
    go_ret
    exact ⟨rfl, HB5.out⟩
  | true =>
    have HYES := hide (show seqGo ds (zeroG ds) ps = ⟨sr, sl, ss⟩ from by rw [← seqG_yes HBQ.out, HSQ.out])
    have HFIT := hide (fun (j : Nat) (p : PrD) (hp : ps[j]? = some p) => okBatch_at (ds := ds) HBQ.out hp)
    obtain ⟨⟨zr, zl, zs⟩, hz⟩ : ∃ g, zeroG ds = g := ⟨_, rfl⟩
    have HSZ : Hid (SmG 8 36 zr) := hide (by have := zeroG_sm ds; rw [hz] at this; exact this)
    have HZQ := hide hz
    have C3 := hide (flatG (impl_ZeroGrads w5 (HR.out w5 H15.out) H15.out.size (by omega) HDS.out.smO) hz)
    clear hz
    go_wp2_with fail
    refine C3.out.mono ?_
    rintro e w6 ⟨A6, c6, rfl, hO6, hb6⟩
    have hs6 := hb6.size
    obtain ⟨w7, hw7⟩ : ∃ W, W = w6.alloc (.cells #[.slice A6 zr.length c6, .int .i64 zl, .bool zs] 32) := ⟨_, rfl⟩
    have hb7 : Below w6.heap.size w6 w7 := hw7 ▸ (Below.refl _ _).alloc (Nat.le_refl _) _
    have s7 : w7.heap.size = w6.heap.size + 1 := by rw [hw7]; simp
    have pw7 : w7.heap[w6.heap.size]? = some (.cells #[.slice A6 zr.length c6, .int .i64 zl, .bool zs] 32 (0, 0)) := by rw [hw7]; exact heap_alloc_new _ _
    have HW7 := hide hw7
    have PW7 := hide pw7
    have HB7 := hide ((HB5.out.trans (hb6.mono HB5.out.size)).trans (hb7.mono (by have := HB5.out.size; omega)))
    have H17 := hide ((H15.out.trans (hb6.mono H15.out.size)).trans (hb7.mono (by have := H15.out.size; omega)))
    have H47 := hide (hb6.trans (hb7.mono hs6))
    have HO7 := hide (hO6.below hb7)
    obtain ⟨G, hG⟩ : ∃ G, G = w6.heap.size := ⟨_, rfl⟩
    have hG5 : w5.heap.size ≤ G := by omega
    have hG7 : w7.heap.size = G + 1 := by omega
    have HGE := hide hG
    rw [← hG] at PW7 HO7
    have PW8 : Hid (w7.heap[G]? = some (.cells #[.slice A6 zr.length c6, .int .i64 zl, .bool zs] 32 (0, 0))) := PW7
    clear hw7 hb6 hb7 pw7 hO6 C3 s7 hG PW7
    go_wp2_with fail
    rw [← HW7.out, ← HGE.out]
    go_loopw [7] (fun iv wr => ∃ k : Nat, k ≤ n2 ∧ iv = .int .i64 (k : Int) ∧ (∃ A1 c1 rr l1 s1 lo hi, wr.heap[G]? = some (.cells #[.slice A1 rr.length c1, .int .i64 l1, .bool s1] 32 (0, 0)) ∧ OwRows wr lo hi (.slice A1 rr.length c1) rr.length (rr.flatMap rowF) ∧ (hi ≤ wr.heap.size ∧ (hi ≤ G ∨ G + 1 ≤ lo)) ∧ Hid (seqGo ds (zeroG ds) (ps.take k) = ⟨rr, l1, s1⟩) ∧ Hid (SmG 8 36 rr)) ∧ Below w5.heap.size w5 wr ∧ G + 1 ≤ wr.heap.size)
      (fun iv _ => n2 - (intOf iv).toNat)
    case atStart => exact ⟨0, Nat.zero_le _, rfl, ⟨A6, c6, zr, zl, zs, w5.heap.size, G, PW8.out, HO7.out, ⟨by omega, .inl (Nat.le_refl _)⟩, hide (by rw [← HZQ.out]; rfl), HSZ⟩, H47.out, by omega⟩
    case round =>
      obtain ⟨k, hk, rfl, ⟨A4, c4, rr, l1, s1, lo, hi, pg, hown, ⟨hhi, hap⟩, hsq, hsmg⟩, hb, hsz⟩ := hrel
      have hbs := hb.size
      have m0r := cellB hb m0
      have H1r := hide (H15.out.trans (hb.mono H15.out.size))
      have HBr := hide (HB5.out.trans (hb.mono HB5.out.size))
      have t0 := blk_cell pg 0
      have t1 := blk_cell pg 1
      have t2 := blk_cell pg 2
      simp at t0 t1 t2
      by_cases hlt : k < n2
      · obtain ⟨b, off, p, A7, n7, c7, A8, n8, c8, rfl, hbB, hp, e0, r7, e1, r8⟩ := (HP.out wr H1r.out).prAt hlt
        have hi1 : (0 : Int) ≤ (k : Int) := by omega
        have hi2 : (k : Int) < (n2 : Int) := by omega
        have hpp := HPS.out p (List.mem_of_getElem? hp)
        have k7 : n7 ≤ 7 := by rw [← r7.1]; exact hpp.1
        have k8 : n8 ≤ 7 := by rw [← r8.1]; exact hpp.2
        have hst := seqGo_step (ds := ds) (g := zeroG ds) hp
        rw [hsq.out] at hst
        obtain ⟨⟨xr, xl, xs⟩, hx⟩ : ∃ g, microG ds p.x p.t = g := ⟨_, rfl⟩
        have hmr := microG_rows (HFIT.out k p hp)
        have hml := microG_loss ds p.x p.t
        have hmsm := microG_sm ds p.x p.t
        rw [hx] at hmr hml hmsm hst
        have hxl : 0 ≤ xl := hml
        have hxn : xr.length = n1 := by rw [← HNL.out]; exact hmr.1
        have HROW := hide (show ∀ (j : Nat) (d : OpD) (r : List Int), ds[j]? = some d → xr[j]? = some r → r.length = d.p.length from hmr.2)
        have HXSM : Hid (SmG 8 36 xr) := hide hmsm
        obtain ⟨⟨ar, al, as'⟩, ha⟩ : ∃ g, addG ⟨rr, l1, s1⟩ ⟨xr, xl, xs⟩ = g := ⟨_, rfl⟩
        have HASM : Hid (SmG 8 36 ar) := hide (by have := addG_sm (a := ⟨rr, l1, s1⟩) (b := ⟨xr, xl, xs⟩) hsmg.out; rw [ha] at this; exact this)
        rw [ha] at hst
        have HST := hide hst
        have HADD := hide (fun (W : World) (A5 : Option Addr) (c5 B5 : Nat) (h5 : RL 1 W B5 A5 n1 c5 (xr.flatMap rowF)) (hB5 : B5 ≤ W.heap.size) (h4 : OwRows W lo hi (.slice A4 rr.length c4) rr.length (rr.flatMap rowF)) (h4h : hi ≤ W.heap.size) =>
          flatG (impl_AddGrads l1 xl s1 xs W h4.rl h5 h4h hB5 (Nat.le_trans hsmg.out.1 (by omega)) (by omega) (hsmg.out.smR (by omega)) (HXSM.out.smR (by omega))) ha)
        have hw1r : w1.heap.size ≤ wr.heap.size := H1r.out.size
        have HM := hide (fun (W : World) (hW : Below wr.heap.size wr W) => flatGn (impl_MicroGrads W ((HR.out wr H1r.out).below (hW.mono hw1r)) (by have := hW.size; omega) (by omega) HDS.out.smO (r7.below (hW.mono hw1r)) (by have := hW.size; omega) (by omega) (r8.below (hW.mono hw1r)) (by have := hW.size; omega) (by omega)) hx hxn)
        have HMa := hide (HM.out wr.drew ((Below.refl _ _).drew))
        have HMb := hide (HM.out (wr.alloc (.cells #[.slice none 0 0, .int .i64 0, .bool false] 32)).drew (((Below.refl _ _).alloc (Nat.le_refl _) _).drew))
        have S0 : wr.drew.cell? ⟨w1.heap.size, 0, none⟩ = some (.slice A1 n1 c1) ∧ wr.drew.cell? ⟨b, off + k * 2, none⟩ = some (.slice A7 n7 c7) ∧ wr.drew.cell? ⟨b, off + k * 2 + 1, none⟩ = some (.slice A8 n8 c8) := ⟨m0r, e0, e1⟩
        have S0a := keepA3 S0
        have S0b : ∀ o : Obj, (wr.alloc o).drew.cell? ⟨w1.heap.size, 0, none⟩ = some (.slice A1 n1 c1) ∧ (wr.alloc o).drew.cell? ⟨b, off + k * 2, none⟩ = some (.slice A7 n7 c7) ∧ (wr.alloc o).drew.cell? ⟨b, off + k * 2 + 1, none⟩ = some (.slice A8 n8 c8) := fun o => S0a o
        have PG := hide pg
        have HOWN := hide hown
        have HBq := hide hb
        have hw51 : w1.heap.size ≤ w5.heap.size := H15.out.size
        clear hx hmr hml hmsm hst ha hp hpp pg hown hb hsq e0 e1 r7 r8 hsmg
        go_wp2_with fail
        have gateA : True := trivial
        have gateB : True := trivial
        go_region_held3 (fun W => W.cell? ⟨w1.heap.size, 0, none⟩ = some (.slice A1 n1 c1) ∧ W.cell? ⟨b, off + k * 2, none⟩ = some (.slice A7 n7 c7) ∧ W.cell? ⟨b, off + k * 2 + 1, none⟩ = some (.slice A8 n8 c8))
          (first | with_reducible exact S0 | with_reducible exact S0a _ | with_reducible exact S0b _ | with_reducible exact S5 | with_reducible exact S5a _ | with_reducible exact S6) (first
          | (clear gateA; go_at_call 19; (with_reducible refine Calls.mono HMa.out ?_); go_must (rintro e w9 ⟨A5, c5, rfl, hO9, hb9⟩); go_must (have S5 := keepB3 hb9 S0); go_must (have hO9' : OwRows w9 wr.heap.size w9.heap.size (.slice A5 n1 c5) n1 (xr.flatMap rowF) := hO9); go_must (have hb9' : Below wr.heap.size wr w9 := undrew hb9); go_must (have hs9 := hb9'.size); go_must (have bx := boxedA (xl := xl) (xs := xs) hO9' hb9'); go_must (have S5a := keepA3 S5); go_must (have pz := heap_alloc_new w9 (.cells #[.slice none 0 0, .int .i64 0, .bool false] 32)); go_must (have a0 : (w9.alloc (.cells #[.slice none 0 0, .int .i64 0, .bool false] 32)).cell? ⟨w9.heap.size, 0, none⟩ = some (.slice none 0 0) := blk_cell pz 0); go_must (have f0 := blk_free pz 0); go_must (have a1 : (w9.alloc (.cells #[.slice none 0 0, .int .i64 0, .bool false] 32)).cell? ⟨w9.heap.size, 1, none⟩ = some (.int .i64 0) := blk_cell pz 1); go_must (have f1 := blk_free pz 1); go_must (have a2 : (w9.alloc (.cells #[.slice none 0 0, .int .i64 0, .bool false] 32)).cell? ⟨w9.heap.size, 2, none⟩ = some (.bool false) := blk_cell pz 2); go_must (have f2 := blk_free pz 2);  go_must (obtain ⟨W9, hW9⟩ : ∃ W, W = w9.alloc (.cells #[.slice A5 n1 c5, .int .i64 xl, .bool xs] 32) := ⟨_, rfl⟩); go_must (obtain ⟨X, hX⟩ : ∃ X, X = w9.heap.size := ⟨_, rfl⟩); go_must (rw [← hW9, ← hX] at bx); go_must (have BX := hide bx); go_must (have HWE := hide hW9); go_must (have HXE := hide hX); go_must (clear bx hW9 hX hO9 hO9' hb9 hb9' pz))
          | (clear gateB; go_at_call 19; (with_reducible refine Calls.mono HMb.out ?_); go_must (rintro e w9 ⟨A5, c5, rfl, hO9, hb9⟩); go_must (have S5 := keepB3 hb9 (S0b _)); go_must (have hs9 : wr.heap.size + 1 ≤ w9.heap.size := (by have := hb9.size; simp at this; exact this)); go_must (have pz : w9.heap[wr.heap.size]? = some (.cells #[.slice none 0 0, .int .i64 0, .bool false] 32 (0, 0)) := (hb9.block wr.heap.size (by simp)).trans (heap_alloc_new wr (.cells #[.slice none 0 0, .int .i64 0, .bool false] 32))); go_must (have a0 : (w9).cell? ⟨wr.heap.size, 0, none⟩ = some (.slice none 0 0) := blk_cell pz 0); go_must (have f0 := blk_free pz 0); go_must (have a1 : (w9).cell? ⟨wr.heap.size, 1, none⟩ = some (.int .i64 0) := blk_cell pz 1); go_must (have f1 := blk_free pz 1); go_must (have a2 : (w9).cell? ⟨wr.heap.size, 2, none⟩ = some (.bool false) := blk_cell pz 2); go_must (have f2 := blk_free pz 2); go_must (have bx := boxedB (w := wr) (wz := (wr.alloc (.cells #[.slice none 0 0, .int .i64 0, .bool false] 32)).drew) (xl := xl) (xs := xs) (((Below.refl _ _).alloc (Nat.le_refl _) _).drew) (by simp) (heap_alloc_new wr _) hO9 hb9); go_must (have S6 := keepS3 (X := wr.heap.size) (.slice A5 n1 c5) (.int .i64 xl) (.bool xs) S5 (by show wr.heap.size ≠ w1.heap.size; omega) (by show wr.heap.size ≠ b; omega) (by show wr.heap.size ≠ b; omega)); go_must (obtain ⟨W9, hW9⟩ : ∃ W, W = ((w9.setCell ⟨wr.heap.size, 0, none⟩ (.slice A5 n1 c5)).setCell ⟨wr.heap.size, 1, none⟩ (.int .i64 xl)).setCell ⟨wr.heap.size, 2, none⟩ (.bool xs) := ⟨_, rfl⟩); go_must (obtain ⟨X, hX⟩ : ∃ X, X = wr.heap.size := ⟨_, rfl⟩); go_must (rw [← hW9] at bx); go_must (have BX : Hid (Boxed wr W9 X A5 n1 c5 xr xl xs) := hide (hX ▸ bx)); go_must (have HWE := hide hW9); go_must (have HXE := hide hX); go_must (clear bx hW9 hX hO9 hb9 pz)))
        all_goals
          rw [← HWE.out, ← HXE.out]
          have bX := BX.out
          have hbX := bX.below
          have hX0 := bX.lo
          have hX1 := bX.hi
          have x0 := blk_cell bX.blk 0
          have x1 := blk_cell bX.blk 1
          have x2 := blk_cell bX.blk 2
          simp at x0 x1 x2
          have m0x := cellB hbX m0r
          have t0x := cellB hbX t0
          have t1x := cellB hbX t1
          have t2x := cellB hbX t2
          have hsX := hbX.size
          have HBX := hide hbX
          have PGX := hide ((hbX.block G (by omega)).trans PG.out)
          have HOX := hide (HOWN.out.below hbX)
          have H1X := hide (H1r.out.trans (hbX.mono H1r.out.size))
          clear bX hbX S0 S0a S0b S5
          (try clear S6)
          (try clear S5a)
          (try clear a0 a1 a2 f0 f1 f2)
          go_wp2_with fail
          go_loopw [9] (fun jv wq => ∃ j : Nat, j ≤ n1 ∧ jv = .int .i64 (j : Int) ∧ Below W9.heap.size W9 wq) (fun jv _ => n1 - (intOf jv).toNat)
          case atStart => exact ⟨0, Nat.zero_le _, rfl, Below.refl _ _⟩
          case round =>
            obtain ⟨j, hj, rfl, hbj⟩ := hrel
            have x0q := cellB hbj x0
            have x1q := cellB hbj x1
            have x2q := cellB hbj x2
            have m0q := cellB hbj m0x
            have t0q := cellB hbj t0x
            have t1q := cellB hbj t1x
            have t2q := cellB hbj t2x
            have hsj := hbj.size
            by_cases hlj : j < n1
            · obtain ⟨b5, off5, r, A9, n9, c9, rfl, hb5, hr, f0, hR9⟩ := (BX.out.rows.below hbj).rowAt hlj
              obtain ⟨b6, off6, d, A10, n10, c10, rfl, hb6, hd, _, _, _, f3, hR10⟩ := (HR.out wr (H1X.out.trans (hbj.mono H1X.out.size))).opAt hlj
              obtain rfl : n9 = n10 := by rw [← hR9.1, ← hR10.1]; exact HROW.out j d r hd hr
              have hj1 : (0 : Int) ≤ (j : Int) := by omega
              have hj2 : (j : Int) < (n1 : Int) := by omega
              have HBJ := hide hbj
              clear hr hd hR9 hR10 hbj
              go_wp2_with fail
              go_quiet (fail)
              go_wp2_with fail
              go_roundw
              case rel => exact ⟨j + 1, by omega, by go_num, below_drewN HBJ.out _⟩
              case measure => simp [intOf]; omega
            · obtain rfl : j = n1 := by omega
              have hgj : ¬ (j : Int) < (j : Int) := by omega
              have HAC := hide (HADD.out wr A5 c5 W9.heap.size (BX.out.rows.below hbj) hsj (HOX.out.below hbj) (by omega))
              have PGQ := hide ((hbj.block G (by omega)).trans PGX.out)
              have HBJ := hide (HBX.out.trans (hbj.mono hsX))
              clear hbj
              go_wp2_with fail
              refine HAC.out.mono ?_
              rintro e w10 ⟨A11, c11, rfl, hO11, hb11⟩
              have hs11 := hb11.size
              have pg11 := (hb11.block G (by omega)).trans PGQ.out
              have v0 := blk_cell pg11 0
              have v1 := blk_cell pg11 1
              have v2 := blk_cell pg11 2
              have q0 := blk_free pg11 0
              have q1 := blk_free pg11 1
              have q2 := blk_free pg11 2
              simp at v0 v1 v2
              have PG11 := hide pg11
              have HO11 := hide hO11
              have HB11 := hide (HBq.out.trans ((HBJ.out.trans (hb11.mono (by omega))).mono hbs))
              clear pg11 hO11 hb11 t0q t1q t2q
              go_wp2_with fail
              go_roundw
              case rel =>
                have hset : Only (fun b => b = G) w10 (((w10.setCell ⟨G, 0, none⟩ (.slice A11 ar.length c11)).setCell ⟨G, 1, none⟩ (.int .i64 al)).setCell ⟨G, 2, none⟩ (.bool as')) := (((Only.refl (fun b => b = G) w10).set G 0 rfl _).set G 1 rfl _).set G 2 rfl _
                have hss := hset.size
                exact ⟨k + 1, by omega, by go_num, ⟨A11, c11, ar, al, as', wr.heap.size, w10.heap.size, blk_set (blk_set (blk_set PG11.out 0 _) 1 _) 2 _, HO11.out.only hset (fun q h1 h2 h3 => by have h4 : q = G := h3; omega), ⟨hss, .inr (by omega)⟩, HST.out, HASM.out⟩, HB11.out.trans (hset.below (B := w5.heap.size) (by omega) (fun q hq h3 => by have h4 : q = G := h3; omega)), by omega⟩
              case measure => simp [intOf]; omega
      · obtain rfl : k = n2 := by omega
        have hfin := hsq.out
        rw [List.take_of_length_le (by rw [HPL.out]; exact Nat.le_refl _), HYES.out] at hfin
        obtain ⟨h1, h2, h3⟩ : sr = rr ∧ sl = l1 ∧ ss = s1 := by
          injection hfin with h1 h2 h3
          exact ⟨h1, h2, h3⟩
        have hge : ¬ (k : Int) < (k : Int) := by omega
        have g0r := cellB hb g0
        have g1r := cellB hb g1
        have g2r := cellB hb g2
        have hrs : rr.length ≤ 8 := hsmg.out.1
        have hSG := spec_SameGrads sl l1 ss s1 wr (HO5.out.below (hb.mono (by omega))) hown.rl (by omega) hhi (by omega) (by omega) (HSMS.out.smR (by omega)) (hsmg.out.smR (by omega))
        rw [h1, h2, h3] at hSG
        have HSG : Hid (Calls Try.prog 50 #[Grv A3 ns c3 l1 s1, Grv A4 rr.length c4 l1 s1] wr fun e w' => e = .returned (.bool true) ∧ Below wr.heap.size wr w') := hide (by simpa using hSG)
        have h2' := h2
        have h3' := h3
        clear hSG pg hown hsq hsmg hfin h1
        subst h2
        subst h3
        go_wp2_with fail
        refine HSG.out.mono ?_
        rintro e w9 ⟨rfl, hb9⟩
        have HBF := hide (HBr.out.trans (hb9.mono HBr.out.size))
        clear hb9
        go_wp2_with fail
        go_ret
        exact ⟨rfl, HBF.out⟩
set_option maxRecDepth 100000 in
theorem lifted (os : Os) (started : os.Started) (H : Type) (enc : TypeId × Value → H) :
    ReturnsInHanded {} Try.checked os 11 .any (Rows.fnInARowSpec.pre6 enc Try.prog Try.f11 Rows.fnInARowRow.domain false) (Rows.fnInARowSpec.post enc Try.prog Try.f11 false true false false) := by
  refine law_lifted (C := Try.checked) (f := 11) (fn := Try.f11) (tb := 4) os (by kernel_rfl) started (by kernel_rfl) Try.func11 (by kernel_rfl) (by kernel_rfl) rfl Try.underlying4 rfl (fun H ds h => ?_) H enc
    (ChangeSpec.witness6 (enc := enc) (C := Try.checked) false ⟨#[], #[.slice none 0 0], []⟩ 8 (by kernel_rfl) (by kernel_rfl) (by kernel_rfl) (by kernel_rfl)) ?_
  · rw [show Try.f11.params.size = 1 from by kernel_rfl] at h
    match ds, h with
    | [d0], _ => rfl
  intro W base args ds ps hval hA hlt
  have hval : ∀ (j : Nat) t v, Try.f11.params[j]? = some t → args[j]? = some v → Value.okWide Try.prog W .any base t v := hval
  have hA : DataW.TrodAll enc Try.prog W 0 (fun _ => true) true Try.f11.params.toList args.toList ds ps := hA
  rw [Try.params11] at hA hval
  obtain ⟨v0, vs0, d0, ds0, p0, q0, hargs, rfl, rfl, h0, r0⟩ := trodAll_cons hA
  obtain ⟨rfl, rfl, rfl⟩ := trodAll_nil r0
  obtain rfl : args = #[v0] := by cases args; simp_all
  obtain ⟨A0, n0, c0, rfl, hC0⟩ := openB Try.underlying84 Try.underlying5 cells_u8 (hval 0 84 v0 rfl rfl) h0 (fun x hx => hlt x (by simp [hx]))
  exact walk W hC0
theorem proved : Rows.FnInARowSaid :=
  OpenClaim.holds_of_wide 11 Try.f11 rfl rfl rfl rfl rfl rfl rfl ⟨rfl, rfl, rfl, rfl, rfl⟩ rfl rfl rfl rfl rfl (by kernel_rfl) Try.func11 (by kernel_rfl)
    (of_decide_eq_true (by kernel_rfl)) (by unfold Func.isWrapper; first | (rw [if_pos (by decide +kernel)]; kernel_rfl) | (rw [if_neg (by decide +kernel)]; exact ⟨rfl, rfl⟩))
    (fun os started H enc _ => lifted os started H enc)
#print axioms proved
end Go.Proofs.Ytehfglfbnjdcoaa.fnInARow
