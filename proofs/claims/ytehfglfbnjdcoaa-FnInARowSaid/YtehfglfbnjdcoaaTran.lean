/-
  The contracts of Transpose.
-/
import Derived.Test.YtehfglfbnjdcoaaProg
import Derived.Test.YtehfglfbnjdcoaaStru
import Derived.Test.YtehfglfbnjdcoaaJPlain
import Derived.Test.YtehfglfbnjdcoaaRec
import Derived.Test.YtehfglfbnjdcoaaMat
import Derived.WalkKit
import Derived.Deep.RegionHeld3
import Derived.BigQuiet
import Derived.Deep.RegionLaw
namespace Go.Proofs.Ytehfglfbnjdcoaa
open Go.RowKit
set_option maxRecDepth 100000

section
variable {P : Program} {ops : Array Oper} {o : Oper} {a : Act} {K : Act → World → Prop} {Q : Exit → Act → World → Prop} {E : Prop}
/-- 'append(s, x...)', the cells of another slice, onto a row of the call's own: as a step of a region that draws its order -/
theorem step_pushS (w : World) (us : List Value) (hgd : o.guard = none) (s x : Operand) (t : TypeId)
    (ho : o.op = .call { callee := .builtin .append, args := #[s, x], argTypes := #[t, t] })
    (base : Nat) (e : TypeId) (z : Value) (bytes : Nat) (ht : P.underlying t = some (.slice e)) (hinfo : (P.info? e).map (fun i => (i.zero, i.size, i.bytes)) = some (some z, 1, bytes)) (hzs : z.cells.size = 1)
    (v : Value) (n m c : Nat) (ad : Addr) (xs : List Value) (hs : a.eval s = v) (hown : w.ownsRow base e 1 v n xs) (hm : us.length = m) (hu : ∀ u ∈ us, u.oneCell' = true)
    (hx : a.eval x = .slice (some ad) m c) (hnews : ∀ j u, us[j]? = some u → w.cell? (ad.add j) = some u) (hlen : n + m ≤ 1073741824) (hby : bytes ≤ 1024) (hbase : base ≤ w.heap.size)
    (h : ∀ v' w', w'.ownsRow base e 1 v' (n + m) (xs ++ us) → w.grownBy w' v.ownBlock → K (a.put o.dst v') w') :
    if Region.wanted o (yielded ops a.tmps) = true then Oper.wp P o a w K Q else E := by
  obtain ⟨i, hi, hz, hsz, hb⟩ := info_parts hinfo
  have hw : Region.wanted o (yielded ops a.tmps) = true := by simp [Region.wanted, hgd]
  rw [if_pos hw]
  obtain ⟨v', w', hr, h2, h3, _, _⟩ := run_append_own_at (P := P) w base t o.type e i z 1 bytes ht hi hz hsz hb hzs (by omega) v n xs hown ad m c us (by rw [hm, Nat.mul_one])
    hnews hu (by simp only [maxLen]; omega) (by have : (n + m) * bytes ≤ 1073741824 * 1024 := Nat.mul_le_mul hlen hby
                                                omega) hbase
  unfold Oper.wp execOp
  simp only [ho, resolve, invoke, builtin, Sem.run_bind, Sem.run_pure, Result.andThen_ok, List.map_toArray, List.map_cons, List.map_nil, hs, hx, hr]
  exact h v' w' h2 h3
end
set_option maxHeartbeats 1000000 in
theorem spec_l4Col {B n cap R C k : Nat} {A : Option Addr} {xs : List Int} (w : World) (h : RI w B A n cap xs) (hB : B ≤ w.heap.size) (hxl : xs.length = R * C) (hk : k < C) (hR : R ≤ 6) (hC : C ≤ 6) :
    Calls Try.prog 142 #[Matv R C A n cap, .int .i64 (k : Int)] w (Gives (NI w (colK R C xs k))) := by
  have hl := hide h.1
  obtain ⟨zs, hz⟩ : ∃ zs, zs = colK R C xs k := ⟨_, rfl⟩
  have HZ := hide hz
  have HZL := hide (show zs.length = R from by rw [hz, colK_len])
  have HXL := hide hxl
  obtain ⟨wb, hwb⟩ : ∃ wb, wb = (w.alloc (.cells #[.int .i64 (R : Int), .int .i64 (C : Int), .slice A n cap] 113)).alloc (.cells #[] 3) := ⟨_, rfl⟩
  have hb0 : Below w.heap.size w wb := hwb ▸ ((Below.refl _ _).alloc (Nat.le_refl _) _).alloc (by simp) _
  have s0 : wb.heap.size = w.heap.size + 2 := by rw [hwb]; simp
  have p0 : wb.heap[w.heap.size]? = some (.cells #[.int .i64 (R : Int), .int .i64 (C : Int), .slice A n cap] 113 (0, 0)) := by rw [hwb, Below.heap_alloc _ _ _ (by simp)]; exact heap_alloc_new _ _
  have ho0 : wb.ownsRow (w.heap.size + 1) 3 1 (.slice (some ⟨w.heap.size + 1, 0, none⟩) 0 0) 0 (ivs []) := by
    have := World.ownsRow_made (e := 3) (size := 1) (w.alloc (.cells #[.int .i64 (R : Int), .int .i64 (C : Int), .slice A n cap] 113)) #[] 0 (base := w.heap.size + 1) (by simp) (by decide) rfl
    rw [hwb]
    simpa [ivs] using this
  have HW := hide hwb
  clear hz hxl hwb
  go_enter Try.func142, Try.ntmps142
  go_wp2_with fail
  rw [← HW.out]
  go_loopw [5, 6] (fun v i wr => ∃ j : Nat, j ≤ R ∧ i = .int .i64 (j : Int) ∧ wr.ownsRow (w.heap.size + 1) 3 1 v j (ivs (zs.take j)) ∧ wr.heap[w.heap.size]? = some (.cells #[.int .i64 (R : Int), .int .i64 (C : Int), .slice A n cap] 113 (0, 0)) ∧ Below w.heap.size w wr ∧ w.heap.size + 2 ≤ wr.heap.size)
    (fun _ i _ => R - (intOf i).toNat)
  case atStart => exact ⟨0, Nat.zero_le _, rfl, ho0, p0, hb0, by omega⟩
  case round =>
    clear ho0 p0 hb0
    obtain ⟨j, hj, rfl, hown, pb, hb, hsz⟩ := hrel
    have y0 := blk_cell pb 0
    have y1 := blk_cell pb 1
    have y2 := blk_cell pb 2
    simp at y0 y1 y2
    by_cases hlt : j < R
    · obtain ⟨p, hp⟩ : ∃ p, p = j * C := ⟨_, rfl⟩
      obtain ⟨q, hq⟩ : ∃ q, q = p + k := ⟨_, rfl⟩
      have hqn : q < n := by rw [hq, hp, ← hl.out, HXL.out]; exact idx_lt hlt hk
      have h36 : p ≤ 36 := by rw [hp]; exact Nat.mul_le_mul (show j ≤ 6 by omega) hC
      obtain ⟨b, off, rfl, hbB, hc⟩ := h.at_ hqn
      obtain ⟨x, hx⟩ : ∃ x, x = xs.getD q 0 := ⟨_, rfl⟩
      rw [← hx] at hc
      have hcx : wr.cell? ⟨b, off + q, none⟩ = some (.int .i64 x) := (hb.cell (p := ⟨b, off + q, none⟩) (show b < w.heap.size by omega)).trans hc
      have e1 : (j : Int) * (C : Int) = (p : Int) := by rw [hp, Int.natCast_mul]
      have e2 : (p : Int) + (k : Int) = (q : Int) := by rw [hq, Int.natCast_add]
      have e3 : (0 : Int) ≤ (q : Int) := by omega
      have e4 : (q : Int) < (n : Int) := by omega
      have HV := hide (show ivs (zs.take (j + 1)) = ivs (zs.take j) ++ [iv x] from by
        rw [take_one zs j (by rw [HZL.out]; exact hlt) 0, HZ.out, colK_get hlt, hx, hq, hp]; simp [ivs])
      clear hx hq hp hc h
      go_wp2_with (at_builtin; refine wpList_push1 wr (iv x) rfl (.tmp 14) (.tmp 25) _ rfl (w.heap.size + 1) 3 _ 8 Try.underlying25 int_info rfl u5 _ _ rfl hown rfl rfl (by omega) (by omega) (by omega) ?_; intro v' w1 hown' hgr _)
      go_roundw
      case rel => exact ⟨j + 1, by omega, by go_num, by rw [HV.out]; exact hown', (hgr.block _ (by omega) (fun hc => by have := (hown.lt _ hc.symm).1; omega)).trans pb, hb.grown hgr (by omega) (fun q hq => by have := (hown.lt q hq).1; omega), by have := hgr.size; omega⟩
      case measure => simp [intOf]; omega
    · have hjR : R ≤ j := by omega
      clear h
      go_wp2_with fail
      go_ret
      exact gives (NewI.own (ownsLo hown (by omega)) hb (by rw [List.take_of_length_le (by rw [HZL.out]; exact hjR), HZ.out]))
set_option maxHeartbeats 4000000 in
theorem impl_Transpose {B n cap : Nat} {A : Option Addr} {xs : List Int} (r c : Int) (w : World) (h : RI w B A n cap xs) (hB : B ≤ w.heap.size) (hn : n ≤ 1048576) :
    Calls Try.prog 143 #[Matv r c A n cap] w fun e w' => ∃ A1 n1 c1, e = .returned (Matv (mTrR r c xs) (mTrC r c xs) A1 n1 c1) ∧ OwI w' w.heap.size w'.heap.size (.slice A1 n1 c1) (mTr r c xs) ∧ Below w.heap.size w w' := by
  have hl := hide h.1
  obtain ⟨wb, hwb⟩ : ∃ wb, wb = (w.alloc (.cells #[.int .i64 r, .int .i64 c, .slice A n cap] 113)).alloc (.cells #[.int .i64 0, .int .i64 0, .slice none 0 0] 113) := ⟨_, rfl⟩
  have hb0 : Below w.heap.size w wb := hwb ▸ ((Below.refl _ _).alloc (Nat.le_refl _) _).alloc (by simp) _
  have s0 : wb.heap.size = w.heap.size + 2 := by rw [hwb]; simp
  have p0 : wb.heap[w.heap.size]? = some (.cells #[.int .i64 r, .int .i64 c, .slice A n cap] 113 (0, 0)) := by rw [hwb, Below.heap_alloc _ _ _ (by simp)]; exact heap_alloc_new _ _
  have p1 : wb.heap[w.heap.size + 1]? = some (.cells #[.int .i64 0, .int .i64 0, .slice none 0 0] 113 (0, 0)) := by
    have := heap_alloc_new (w.alloc (.cells #[.int .i64 r, .int .i64 c, .slice A n cap] 113)) (.cells #[.int .i64 0, .int .i64 0, .slice none 0 0] 113)
    rw [hwb]; simpa using this
  have x0 := blk_cell p0 0
  have x1 := blk_cell p0 1
  have x2 := blk_cell p0 2
  simp at x0 x1 x2
  have HOK := hide (impl_MatOk r c wb (h.below (hb0.mono hB)) (by omega) hn)
  have HW := hide hwb
  clear hwb
  by_cases hok : okM r c xs = true
  case neg =>
    have hof : okM r c xs = false := by simpa using hok
    have HF := hide hof
    rw [hof] at HOK
    clear hok hof h
    go_enter Try.func143, Try.ntmps143
    go_wp2_with fail
    rw [← HW.out]
    refine HOK.out.mono ?_
    rintro e w1 ⟨rfl, hb1⟩
    have p2 := (hb1.block _ (by omega)).trans p1
    have q0 := blk_cell p2 0
    have q1 := blk_cell p2 1
    have q2 := blk_cell p2 2
    have f0 := blk_free p2 0
    have f1 := blk_free p2 1
    have f2 := blk_free p2 2
    simp at q0 q1 q2
    have P2 := hide p2
    clear p2 p1 p0 x0 x1 x2
    go_wp2_with fail
    refine bodyPost_ret (results_cell_row (P := Try.prog) (d := _) rfl _ _ (w.heap.size + 1) 113 #[.int .i64 0, .int .i64 0, .slice none 0 0] (0, 0) rfl ?_ Try.underlying113 rfl rfl) rfl ?_
    · exact blk_set (blk_set (blk_set P2.out 0 _) 1 _) 2 _
    · refine ⟨none, 0, 0, by rw [mTrR, mTrC, HF.out]; rfl, by rw [mTr, HF.out]; exact OI.nil _ _ _ _, ?_⟩
      exact below_set (below_set (below_set (hb0.trans (hb1.mono (by omega))) _ _ (by omega) _) _ _ (by omega) _) _ _ (by omega) _
  obtain ⟨R, C, rfl, rfl, hR1, hR6, hC1, hC6, hxl, _⟩ := okM_spec hok
  obtain ⟨zs, hz⟩ : ∃ zs, zs = tposeL R C xs := ⟨_, rfl⟩
  have HZ := hide hz
  have HZL := hide (show zs.length = C * R from by rw [hz, tposeL_len])
  have HXL := hide hxl
  have HO := hide hok
  rw [hok] at HOK
  have HR := hide h
  clear hz hxl hok hn
  go_enter Try.func143, Try.ntmps143
  go_wp2_with fail
  rw [← HW.out]
  refine HOK.out.mono ?_
  rintro e w1 ⟨rfl, hb1⟩
  replace p0 := (hb1.block _ (by omega)).trans p0
  replace p1 := (hb1.block _ (by omega)).trans p1
  replace x0 := cellB hb1 x0
  replace x1 := cellB hb1 x1
  replace x2 := cellB hb1 x2
  have hbw := hb0.trans (hb1.mono (by omega))
  have s1 := hb1.size
  clear hb1 hb0
  go_wp2_with fail
  obtain ⟨g, hg⟩ : ∃ g, g = w1.heap.size := ⟨_, rfl⟩
  obtain ⟨w2, hw2⟩ : ∃ w2, w2 = w1.alloc (.cells #[.int .i64 (C : Int), .int .i64 (R : Int), .slice none 0 0] 113) := ⟨_, rfl⟩
  have hb2 : Below w.heap.size w w2 := hw2 ▸ hbw.alloc (by omega) _
  have s2 : w2.heap.size = g + 1 := by rw [hw2, hg]; simp
  have p2 : w2.heap[g]? = some (.cells #[.int .i64 (C : Int), .int .i64 (R : Int), .slice none 0 0] 113 (0, 0)) := by rw [hw2, hg]; exact heap_alloc_new _ _
  replace p0 : w2.heap[w.heap.size]? = some (.cells #[.int .i64 (R : Int), .int .i64 (C : Int), .slice A n cap] 113 (0, 0)) := by rw [hw2, Below.heap_alloc _ _ _ (by omega)]; exact p0
  replace p1 : w2.heap[w.heap.size + 1]? = some (.cells #[.int .i64 0, .int .i64 0, .slice none 0 0] 113 (0, 0)) := by rw [hw2, Below.heap_alloc _ _ _ (by omega)]; exact p1
  rw [← hw2, ← hg]
  clear hw2 x0 x1 x2 hbw
  have hgw : w.heap.size + 2 ≤ g := by omega
  clear s0 s1 hg
  go_loopw [4] (fun i wr => ∃ k : Nat, k ≤ C ∧ i = .int .i64 (k : Int) ∧ (∃ p0, Hid (p0 = k * R) ∧ ∃ v, wr.heap[g]? = some (.cells #[.int .i64 (C : Int), .int .i64 (R : Int), v] 113 (0, 0)) ∧ wr.ownsRow (g + 1) 3 1 v p0 (ivs (zs.take p0))) ∧ wr.heap[w.heap.size]? = some (.cells #[.int .i64 (R : Int), .int .i64 (C : Int), .slice A n cap] 113 (0, 0)) ∧ wr.heap[w.heap.size + 1]? = some (.cells #[.int .i64 0, .int .i64 0, .slice none 0 0] 113 (0, 0)) ∧ Below w.heap.size w wr ∧ g + 1 ≤ wr.heap.size)
    (fun i _ => C - (intOf i).toNat)
  case atStart => exact ⟨0, Nat.zero_le _, rfl, ⟨0, by simp [Hid], _, p2, World.ownsRow_nil _ _ _ _⟩, p0, p1, hb2, by omega⟩
  case round =>
    clear p0 p1 p2 hb2
    obtain ⟨k, hk, rfl, ⟨p0, hp0, v0, pt, hown⟩, pm, pz, hb, hsz⟩ := hrel
    have x0 := blk_cell pm 0
    have x1 := blk_cell pm 1
    have x2 := blk_cell pm 2
    simp at x0 x1 x2
    by_cases hlt : k < C
    · have hpb : p0 + R ≤ 36 := by
        have h1 : (k + 1) * R ≤ C * R := Nat.mul_le_mul_right R hlt
        have h2 : C * R ≤ 6 * 6 := Nat.mul_le_mul hC6 hR6
        rw [Nat.succ_mul] at h1
        have := hp0.out
        omega
      clear h
      go_wp2_with fail
      go_loopw [5] (fun i wr => ∃ j : Nat, j ≤ R ∧ i = .int .i64 (j : Int) ∧ (∃ v, wr.heap[g]? = some (.cells #[.int .i64 (C : Int), .int .i64 (R : Int), v] 113 (0, 0)) ∧ wr.ownsRow (g + 1) 3 1 v (p0 + j) (ivs (zs.take (p0 + j)))) ∧ wr.heap[w.heap.size]? = some (.cells #[.int .i64 (R : Int), .int .i64 (C : Int), .slice A n cap] 113 (0, 0)) ∧ wr.heap[w.heap.size + 1]? = some (.cells #[.int .i64 0, .int .i64 0, .slice none 0 0] 113 (0, 0)) ∧ Below w.heap.size w wr ∧ g + 1 ≤ wr.heap.size)
        (fun i _ => R - (intOf i).toNat)
      case atStart => exact ⟨0, Nat.zero_le _, rfl, ⟨v0, pt, hown⟩, pm, pz, hb, hsz⟩
      case round =>
        clear pt hown pm pz hb hsz x0 x1 x2
        obtain ⟨j, hj, rfl, ⟨v1, pt, hown⟩, pm, pz, hb, hsz⟩ := hrel
        have x0 := blk_cell pm 0
        have x1 := blk_cell pm 1
        have x2 := blk_cell pm 2
        simp at x0 x1 x2
        by_cases hlt' : j < R
        · obtain ⟨p, hp⟩ : ∃ p, p = j * C := ⟨_, rfl⟩
          obtain ⟨q, hq⟩ : ∃ q, q = p + k := ⟨_, rfl⟩
          have hqn : q < n := by rw [hq, hp, ← hl.out, HXL.out]; exact idx_lt hlt' hlt
          have h36 : p ≤ 36 := by rw [hp]; exact Nat.mul_le_mul (show j ≤ 6 by omega) hC6
          obtain ⟨b, off, rfl, hbB, hc⟩ := HR.out.at_ hqn
          obtain ⟨x, hx⟩ : ∃ x, x = xs.getD q 0 := ⟨_, rfl⟩
          rw [← hx] at hc
          have hcx : wr.cell? ⟨b, off + q, none⟩ = some (.int .i64 x) := (hb.cell (p := ⟨b, off + q, none⟩) (show b < w.heap.size by omega)).trans hc
          have e1 : (j : Int) * (C : Int) = (p : Int) := by rw [hp, Int.natCast_mul]
          have e2 : (p : Int) + (k : Int) = (q : Int) := by rw [hq, Int.natCast_add]
          have e5 : IntKind.i64.wrap (p : Int) = (p : Int) := by rw [IntKind.wrap_i64]; omega
          have e6 : IntKind.i64.wrap (q : Int) = (q : Int) := by rw [IntKind.wrap_i64]; omega
          have e3 : (0 : Int) ≤ (q : Int) := by omega
          have e4 : (q : Int) < (n : Int) := by omega
          have HV := hide (show ivs (zs.take (p0 + (j + 1))) = ivs (zs.take (p0 + j)) ++ [iv x] from by
            have hlen : p0 + j < zs.length := by rw [HZL.out, hp0.out]; exact idx_lt hlt hlt'
            rw [← Nat.add_assoc, take_one zs (p0 + j) hlen 0, HZ.out, hp0.out, tposeL_get hlt hlt', hx, hq, hp]; simp [ivs])
          have t2 := blk_cell pt 2
          simp at t2
          have ta := fun o => cellB ((Below.refl _ _).alloc (Nat.le_refl _) o) t2
          have xa1 := fun o => cellB ((Below.refl _ _).alloc (Nat.le_refl _) o) x1
          have xa2 := fun o => cellB ((Below.refl _ _).alloc (Nat.le_refl _) o) x2
          have ca := fun o => cellB ((Below.refl _ _).alloc (Nat.le_refl _) o) hcx
          clear hx hq hp hc
          go_wp2_with fail
          go_region_law (first
            | (refine step_pushN wr.drew [iv x] rfl (.tmp 28) (.tmp 39) _ rfl (g + 1) 3 _ 8 Try.underlying25 int_info rfl v1 _ 1 _ rfl hown rfl (by simp [Value.oneCell']) rfl (by omega) (by omega) hsz ?_; intro v' w3 hown' hgr _; obtain ⟨A9, c9, hv9⟩ := ownsRow_form hown'; rw [hv9]; rw [hv9] at hown'; have hgr : wr.grownBy w3 v1.ownBlock := ⟨hgr.os, hgr.tape, hgr.output, hgr.size, hgr.block⟩; have hne : ∀ q, v1.ownBlock = some q → g + 1 ≤ q := fun q hq => (hown.lt q hq).1; have pt3 := (hgr.block g (by omega) (fun hc => by have := hne _ hc.symm; omega)).trans pt; have pm3 := (hgr.block w.heap.size (by omega) (fun hc => by have := hne _ hc.symm; omega)).trans pm; have pz3 := (hgr.block (w.heap.size + 1) (by omega) (fun hc => by have := hne _ hc.symm; omega)).trans pz; have t3 := blk_cell pt3 2; have g3 := blk_free pt3 2; simp at t3; have x13 := blk_cell pm3 1; have x23 := blk_cell pm3 2; simp at x13 x23))
          all_goals go_wp2_with fail
          all_goals go_roundw
          all_goals first
            | (simp [intOf]; omega; done)
            | exact ⟨j + 1, by omega, by go_num, ⟨_, blk_set pt3 2 _, ownsRow_setCell_below (by rw [HV.out]; exact hown') (show g < g + 1 by omega) _⟩, blk_far pm3 (by omega) _, blk_far pz3 (by omega) _, below_set (hb.grown hgr (by omega) (fun q hq => by have := hne q hq; omega)) _ _ (by omega) _, by have := hgr.size; simp [World.setCell]; omega⟩
        · obtain rfl : R = j := by omega
          have HP := hide (show p0 + R = (k + 1) * R from by rw [Nat.succ_mul, hp0.out])
          go_wp2_with fail
          go_roundw
          case rel => exact ⟨k + 1, by omega, by go_num, ⟨p0 + R, HP.out, v1, pt, hown⟩, pm, pz, hb, hsz⟩
          case measure => simp [intOf]; omega
    · obtain rfl : k = C := by omega
      have e0 : p0 = k * R := hp0.out
      have e1 : zs.take p0 = zs := List.take_of_length_le (by rw [HZL.out, e0]; exact Nat.le_refl _)
      rw [e1] at hown
      have HOWN := hide hown
      obtain ⟨A9, c9, hv9⟩ := ownsRow_form hown
      rw [hv9] at pt HOWN
      have t0 := blk_cell pt 0
      have t1 := blk_cell pt 1
      have t2 := blk_cell pt 2
      have a0 := blk_cell pz 0
      have a1 := blk_cell pz 1
      have a2 := blk_cell pz 2
      have b0 := blk_free pz 0
      have b1 := blk_free pz 1
      have b2 := blk_free pz 2
      simp at t0 t1 t2 a0 a1 a2
      have PZ := hide pz
      have HB := hide hb
      have EQ := hide (And.intro (show mTrR R k xs = (k : Int) from by rw [mTrR, if_pos HO.out]) (And.intro (show mTrC R k xs = (R : Int) from by rw [mTrC, if_pos HO.out]) (show mTr R k xs = zs from by rw [mTr, if_pos HO.out, HZ.out]; rfl)))
      clear e1 hown pz hb e0 pt pm
      go_wp2_with fail
      refine bodyPost_ret (results_cell_row (P := Try.prog) (d := _) rfl _ _ (w.heap.size + 1) 113 #[.int .i64 (k : Int), .int .i64 (R : Int), .slice A9 p0 c9] (0, 0) rfl ?_ Try.underlying113 rfl rfl) rfl ?_
      · exact blk_set (blk_set (blk_set PZ.out 0 _) 1 _) 2 _
      · obtain ⟨E1, E2, E3⟩ := EQ.out
        refine ⟨A9, p0, c9, by rw [E1, E2], ?_, below_set (below_set (below_set HB.out _ _ (by omega) _) _ _ (by omega) _) _ _ (by omega) _⟩
        rw [E3]
        exact (OI.of_own (ownsLo (ownsRow_setCell_below (ownsRow_setCell_below (ownsRow_setCell_below HOWN.out (show w.heap.size + 1 < g + 1 by omega) _) (show w.heap.size + 1 < g + 1 by omega) _) (show w.heap.size + 1 < g + 1 by omega) _) (show w.heap.size ≤ g + 1 by omega)))
end Go.Proofs.Ytehfglfbnjdcoaa
