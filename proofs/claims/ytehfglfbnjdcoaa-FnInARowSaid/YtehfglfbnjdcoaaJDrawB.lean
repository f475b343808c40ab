/-
  Joined: DrawR, DrawS, DrawT, DrawU.
-/
import Derived.Test.YtehfglfbnjdcoaaJDrawA
import Derived.Test.YtehfglfbnjdcoaaPairS
import Derived.Test.YtehfglfbnjdcoaaInOfS
import Derived.Test.YtehfglfbnjdcoaaOut
import Derived.Test.YtehfglfbnjdcoaaMicS
import Derived.Test.YtehfglfbnjdcoaaMkN
namespace Go.Proofs.Ytehfglfbnjdcoaa
open Go.RowKit
set_option maxRecDepth 100000
set_option maxRecDepth 100000

theorem mIn_bd (ds : List OpD) : 0 ≤ mIn ds ∧ mIn ds ≤ 6 := by
  rw [mIn]; split
  · rename_i h
    cases hd : ds.head? with
    | none => exact ⟨Int.le_refl _, (by decide : (0 : Int) ≤ 6)⟩
    | some d =>
      have ho := okMd_op h (show ds[0]? = some d by rw [← List.head?_eq_getElem?]; exact hd)
      simp only [okOd, okO, Bool.and_eq_true, decide_eq_true_eq] at ho
      show 0 ≤ d.i ∧ d.i ≤ 6
      omega
  · omega
theorem mOutN_bd (ds : List OpD) : 0 ≤ mOutN ds ∧ mOutN ds ≤ 6 := by
  rw [mOutN]; split
  · rename_i h
    cases hd : ds.getLast? with
    | none => exact ⟨Int.le_refl _, (by decide : (0 : Int) ≤ 6)⟩
    | some d =>
      have ho := okMd_op h (show ds[ds.length - 1]? = some d by rw [← List.getLast?_eq_getElem?]; exact hd)
      simp only [okOd, okO, Bool.and_eq_true, decide_eq_true_eq] at ho
      show 0 ≤ d.o ∧ d.o ≤ 6
      omega
  · omega
/-- two rows, one behind the other -/
theorem FOs.two {e : TypeId} {w : World} {lo mid mid' hi : Nat} {u v : Value} {xs ys : List Int} (h1 : OI e w lo mid u xs) (h2 : OI e w mid' hi v ys) (hlo : lo ≤ mid') (hm : mid ≤ mid') (hhi : mid ≤ hi) : FOs e w lo hi none [u, v] [.s xs, .s ys] := by
  refine ⟨rfl, fun p z f hz hf => ?_, fun p q z y b hne hz hy hb => ?_, fun p z b _ _ => by simp⟩
  · match p with
    | 0 => simp at hz hf; subst hz; subst hf; exact h1.more (Nat.le_refl _) hhi
    | 1 => simp at hz hf; subst hz; subst hf; exact h2.more hlo (Nat.le_refl _)
    | p + 2 => simp at hz
  · have k1 : ∀ b, u.ownBlock = some b → b < mid := fun b hb => h1.2 b hb
    have k2 : ∀ b, v.ownBlock = some b → mid' ≤ b := fun b hb => (h2.1.lt b hb).1
    match p, q with
    | 0, 0 => exact absurd rfl hne
    | 1, 1 => exact absurd rfl hne
    | 0, 1 =>
      simp at hz hy; subst hz; subst hy
      intro hc
      have := k1 b hb; have := k2 b hc; omega
    | 1, 0 =>
      simp at hz hy; subst hz; subst hy
      intro hc
      have := k2 b hb; have := k1 b hc; omega
    | p + 2, _ => simp at hz
    | 0, q + 2 => simp at hy
    | 1, q + 2 => simp at hy
def prL (ps : List PrD) : Prop := ∀ p ∈ ps, p.x.length ≤ 7 ∧ p.t.length ≤ 7
theorem prL.nil : prL [] := fun d hd => by simp at hd
theorem prL.smP {ps : List PrD} (h : prL ps) : SmP ps := fun j d hd => by have := h d (List.mem_of_getElem? hd); omega
theorem prL.snoc {ps : List PrD} {p : PrD} (h : prL ps) (h1 : p.x.length ≤ 7) (h2 : p.t.length ≤ 7) : prL (ps ++ [p]) := fun x hx => by
  rcases List.mem_append.1 hx with hx | hx
  · exact h x hx
  · obtain rfl : x = p := by simpa using hx
    exact ⟨h1, h2⟩
theorem prL.set {ps : List PrD} {p : PrD} (h : prL ps) (h1 : p.x.length ≤ 7) (h2 : p.t.length ≤ 7) (k : Nat) : prL (ps.set k p) := fun x hx => by
  rcases List.mem_or_eq_of_mem_set hx with hx | rfl
  · exact h x hx
  · exact ⟨h1, h2⟩
/-- a batch is drawn, into new memory -/
def DrawnPs (B : Nat) (A : Option Addr) (n cap a : Nat) (w : World) (n0 n1 : Nat) (e : Ending) (w' : World) : Prop :=
  ∃ (A' : Option Addr) (n' c' : Nat) (ps : List PrD), e = .returned (.slice A' n' c') ∧ n0 ≤ n' ∧ n' ≤ n1 ∧ prL ps ∧ OwPrs w' w.heap.size w'.heap.size (.slice A' n' c') n' (ps.flatMap prF) ∧ Only (fun b => b = a) w w' ∧ Cur B A n cap a w'
section
variable {B n cap a : Nat} {A : Option Addr}
set_option maxHeartbeats 4000000 in
theorem spec_l6Batch {lo hi nm cm : Nat} {Am : Option Addr} {ds : List OpD} (w : World) (h : Cur B A n cap a w) (hm : OwOps w lo hi (.slice Am nm cm) nm (ds.flatMap opF)) (hlo : a < lo) (hhi : hi ≤ w.heap.size) (hn : nm ≤ 1048576) (hsm : SmO ds) :
    Calls Try.prog 127 #[.pointer (some ⟨a, 0, none⟩), Modv Am nm cm] w (DrawnPs B A n cap a w 1 4) := by
  have hlt := h.lt
  have hBa := h.base
  obtain ⟨x, hx⟩ : ∃ x, mIn ds = x := ⟨_, rfl⟩
  obtain ⟨y, hy⟩ : ∃ y, mOutN ds = y := ⟨_, rfl⟩
  have hxb := mIn_bd ds
  have hyb := mOutN_bd ds
  rw [hx] at hxb
  rw [hy] at hyb
  obtain ⟨hx0, hx6⟩ := hxb
  obtain ⟨hy0, hy6⟩ := hyb
  have hkey : ∀ (W : World), Only (fun b => b = a) w W → RL 4 W hi Am nm cm (ds.flatMap opF) := fun W hW => (hm.only hW (fun q h1 h2 h3 => by have h4 : q = a := h3; omega)).rl
  have HIN := hide (fun (W : World) (hW : Only (fun b => b = a) w W) => hx ▸ spec_InOf W (hkey W hW) (by have := hW.size; omega) hn hsm)
  have HOUT := hide (fun (W : World) (hW : Only (fun b => b = a) w W) => hy ▸ spec_OutOf W (hkey W hW) (by have := hW.size; omega) hn hsm)
  obtain ⟨w1, hw1⟩ : ∃ W, W = w.alloc (.cells #[.slice Am nm cm] 36) := ⟨_, rfl⟩
  obtain ⟨w2, hw2⟩ : ∃ W, W = w1.alloc (.cells #[] 38) := ⟨_, rfl⟩
  have s1 : w1.heap.size = w.heap.size + 1 := by rw [hw1]; simp
  have s2 : w2.heap.size = w.heap.size + 1 + 1 := by rw [hw2]; simp [s1]
  have hb2 : Below w.heap.size w w2 := hw2 ▸ (hw1 ▸ (Below.refl _ _).alloc (Nat.le_refl _) _ : Below w.heap.size w w1).alloc (by omega) _
  have PB := hide (show w2.heap[w.heap.size]? = some (.cells #[.slice Am nm cm] 36 (0, 0)) from by
    rw [hw2, Below.heap_alloc _ _ _ (by omega), hw1]; exact heap_alloc_new _ _)
  have hE : OwPrs w2 (w.heap.size + 1) (w.heap.size + 1 + 1) (.slice (some ⟨w.heap.size + 1, 0, none⟩) 0 0) 0 [] := by
    have := OL.empty 3 38 2 w1
    rw [← hw2, s1] at this
    exact this
  have HE := hide (hE.more (Nat.le_refl _) (show w.heap.size + 1 + 1 ≤ w2.heap.size by omega))
  have HW1 := hide hw1
  have HW2 := hide hw2
  have hs2 : w.heap.size + 2 ≤ w2.heap.size := by omega
  have HB := hide (spec_l1Below 4 w2 (h.below hb2) (by omega) (by omega))
  have HO2 := hide (show Only (fun b => b = a) w w2 from Only.of_below hb2)
  clear hw1 hw2 s1 s2 hb2 h hm hx hy hkey hsm hE hlo hhi
  go_enter Try.func127, Try.ntmps127
  go_wp2_with fail
  rw [← HW1.out, ← HW2.out]
  refine HB.out.mono ?_
  rintro e w3 ⟨z, rfl, hz0, hz1, ho3, hc3⟩
  have hs3 := ho3.size
  obtain ⟨Y, rfl⟩ : ∃ Y : Nat, z = (Y : Int) := ⟨z.toNat, by omega⟩
  have HO3 := hide (HO2.out.trans ho3)
  have PB3 := hide ((ho3.block w.heap.size (by omega) (by omega)).trans PB.out)
  have HE3 := hide ((HE.out.only ho3 (fun q h1 h2 h3 => by omega)).more (Nat.le_refl _) hs3)
  have HC3 := hide hc3
  have hY3 : Y ≤ 3 := by omega
  clear ho3 hc3 hz0 hz1 HB
  go_wp2_with fail
  go_loopw [5, 6] (fun bv qv wr => ∃ (q k : Nat) (A' : Option Addr) (c' : Nat) (ps : List PrD), bv = .slice A' k c' ∧ qv = .int .i64 (q : Int) ∧ q + k = 1 + Y ∧ prL ps ∧ OwPrs wr (w.heap.size + 1) wr.heap.size (.slice A' k c') k (ps.flatMap prF) ∧
      wr.heap[w.heap.size]? = some (.cells #[.slice Am nm cm] 36 (0, 0)) ∧ w.heap.size + 2 ≤ wr.heap.size ∧ Only (fun b => b = a) w wr ∧ Cur B A n cap a wr)
    (fun _ q _ => (intOf q).toNat)
  case atStart => exact ⟨1 + Y, 0, _, 0, [], rfl, by simp, by omega, prL.nil, HE3.out, PB3.out, by omega, HO3.out, HC3.out⟩
  case round =>
    obtain ⟨q, k, A1, c1, ps, rfl, rfl, hqk, hps, hown, pb, hsz, ho, hc⟩ := hrel
    clear HO2 HO3 PB PB3 HE HE3 HC3 hs2 hs3
    by_cases hq : 0 < q
    · have hq' : (0 : Int) < (q : Int) := by omega
      have HPS := hide hps
      have HOW := hide hown
      have PB := hide pb
      have HO := hide ho
      have HC := hide hc
      have m0 := blk_cell pb 0
      simp at m0
      have hk : k < 1073741824 := by omega
      have hlw : w.heap.size + 1 ≤ wr.heap.size := by omega
      clear hps hown pb ho hc
      go_wp2_with fail
      have gate1 : True := trivial
      have gate2 : True := trivial
      have gate3 : True := trivial
      have gate4 : True := trivial
      have gate5 : True := trivial
      go_region_held3 (fun W => W.cell? ⟨w.heap.size, 0, none⟩ = some (.slice Am nm cm)) (first | exact m0 | (exact cellB ((Below.refl _ _).alloc (Nat.le_refl _) _) m0)) (first
        | (clear gate1; go_at_call 106; refine (HIN.out wr.drew HO.out.drew).mono ?_; rintro e w4 ⟨rfl, hb4⟩; have hb4 : Below wr.heap.size wr w4 := undrew hb4; have hs4 := hb4.size; have pb4 := (hb4.block w.heap.size (by omega)).trans PB.out; have PB4 := hide pb4; have HOW4 := hide (HOW.out.below hb4); have HO4 := hide (HO.out.trans (Only.of_below hb4)); have HC4 := hide (HC.out.below hb4); replace m0 := blk_cell pb4 0; simp at m0; clear pb4 hb4)
        | (clear gate2; go_at_call 121; refine (spec_l3Vec x 6 w4 HC4.out (by omega) (by omega)).mono ?_; rintro e w5 ⟨v5, xs, rfl, hl0, hl1, hxs, hO5, ho5, hc5⟩; obtain ⟨A5, n5, c5, rfl, _⟩ := hO5.rv; have hs5 := ho5.size; have pb5 := (ho5.block w.heap.size (by omega) (by omega)).trans PB4.out; have PB5 := hide pb5; have HOW5 := hide (HOW4.out.only ho5 (fun q h1 h2 h3 => by omega)); have HO5 := hide (HO4.out.trans ho5); have HC5 := hide hc5; have HX5 := hide hO5; replace m0 := blk_cell pb5 0; simp at m0; clear pb5 hO5 ho5 hc5 hxs)
        | (clear gate3; go_at_call 116; refine (HOUT.out w5 HO5.out).mono ?_; rintro e w6 ⟨rfl, hb6⟩; have hs6 := hb6.size; have pb6 := (hb6.block w.heap.size (by omega)).trans PB5.out; have PB6 := hide pb6; have HOW6 := hide (HOW5.out.below hb6); have HO6 := hide (HO5.out.trans (Only.of_below hb6)); have HC6 := hide (HC5.out.below hb6); have HX6 := hide (HX5.out.below hb6); replace m0 := blk_cell pb6 0; simp at m0; clear pb6 hb6)
        | (clear gate4; go_at_call 121; refine (spec_l3Vec y 6 w6 HC6.out (by omega) (by omega)).mono ?_; rintro e w7 ⟨v7, ys, rfl, hm0, hm1, hys, hO7, ho7, hc7⟩; obtain ⟨A7, n7, c7, rfl, _⟩ := hO7.rv; have hs7 := ho7.size; have pb7 := (ho7.block w.heap.size (by omega) (by omega)).trans PB6.out; have PB7 := hide pb7; have HOW7 := hide (HOW6.out.only ho7 (fun q h1 h2 h3 => by omega)); have HO7 := hide (HO6.out.trans ho7); have HC7 := hide hc7; have HX7 := hide (HX6.out.only ho7 (fun q h1 h2 h3 => by omega)); have HU7 := hide (FOs.two (HX7.out.more (show wr.heap.size ≤ w4.heap.size from hs4) (Nat.le_refl _)) hO7 (by omega) hs6 (by omega)); have hw7 : wr.heap.size ≤ w7.heap.size := (by omega); replace m0 := blk_cell pb7 0; simp at m0; clear pb7 hO7 ho7 hc7 hys)
        | (clear gate5; refine step_pushL w7 [.slice A5 n5 c5, .slice A7 n7 c7] [.s xs, .s ys] rfl (.tmp 15) (.tmp 25) _ rfl 3 38 2 48 _ Try.underlying80 pair_info rfl (by decide) (by decide) rfl HOW7.out HU7.out rfl rfl hlw hw7 hk ?_; intro A9 c9 w9 hO9 hon9; have hne : ∀ q, (Value.slice A1 k c1).ownBlock = some q → w.heap.size + 1 ≤ q := (fun q hq => (HOW.out.lt q hq).1); have hs9 := hon9.size; have pb9 := (hon9.block w.heap.size (by omega) (fun hc => by have := hne _ hc; omega)).trans PB7.out; have PB9 := hide pb9; have HO9 := hide hO9; have HON9 := hide (hon9.mono (q := fun b => w.heap.size ≤ b) (fun q hq => by have := hne q hq; omega)); replace m0 := blk_cell pb9 0; simp at m0; clear pb9 hO9 hon9 hne))
      go_wp2_with fail
      go_roundw
      case rel => exact ⟨q - 1, k + 1, A9, c9, ps ++ [⟨xs, ys⟩], rfl, by rw [show ((q - 1 : Nat) : Int) = (q : Int) - 1 by omega], by omega, HPS.out.snoc (by show xs.length ≤ 7; omega) (by show ys.length ≤ 7; omega), by rw [flat_one]; exact HO9.out, PB9.out, by omega, only_newO HO7.out HON9.out (Nat.le_refl _), HC7.out.only HON9.out (fun q hq => by omega)⟩
      case measure => simp [intOf]; omega
    · obtain rfl : q = 0 := by omega
      have HPS := hide hps
      have HOW := hide hown
      have HO := hide ho
      have HC := hide hc
      clear hps hown pb ho hc
      go_wp2_with fail
      go_ret
      exact ⟨A1, k, c1, ps, rfl, by omega, by omega, HPS.out, HOW.out.more (by omega) (Nat.le_refl _), HO.out, HC.out⟩
end
end Go.Proofs.Ytehfglfbnjdcoaa
namespace Go.Proofs.Ytehfglfbnjdcoaa
open Go.RowKit
set_option maxRecDepth 100000

/-- the slice value v owns records; rows in them may be shared -/
def OLa (e T m : TypeId) (w : World) (lo hi : Nat) (v : Value) (n : Nat) (fs : List Fl) : Prop :=
  ∃ vs, w.ownsRow lo T m v n vs ∧ (∀ g, v.ownBlock = some g → g < hi) ∧ vs.length = fs.length ∧ (∀ (p : Nat) u f, vs[p]? = some u → fs[p]? = some f → FO e w lo hi u f) ∧ ∀ u ∈ vs, ∀ b, u.ownBlock = some b → v.ownBlock ≠ some b
theorem OL.a {e T m : TypeId} {w : World} {lo hi n : Nat} {v : Value} {fs : List Fl} (h : OL e T m w lo hi v n fs) : OLa e T m w lo hi v n fs := by
  obtain ⟨vs, h1, h2, h3⟩ := h
  refine ⟨vs, h1, h2, h3.len, h3.each, fun u hu b hb => ?_⟩
  obtain ⟨p, hp⟩ := List.getElem?_of_mem hu
  exact h3.off p u b hp hb
section
variable {e T m : TypeId} {w w' : World} {lo hi hi' n c : Nat} {v : Value} {fs gs : List Fl} {A : Option Addr} {p : Nat → Prop}
theorem OLa.only (h : OLa e T m w lo hi v n fs) (ho : Only p w w') (hp : ∀ k, lo ≤ k → k < hi → ¬ p k) : OLa e T m w' lo hi v n fs := by
  obtain ⟨vs, ⟨hl, hc⟩, hhi, hlen, heach, hoff⟩ := h
  refine ⟨vs, ⟨hl, ?_⟩, hhi, hlen, fun q u f hu hf => ?_, hoff⟩
  · rcases hc with hc | ⟨g, cap, cur, rfl, hg, hh, r⟩
    · exact .inl hc
    · have hlt : g < w.heap.size := (Array.getElem?_eq_some_iff.1 hh).1
      exact .inr ⟨g, cap, cur, rfl, hg, (ho.block g hlt (hp g hg (hhi g rfl))).trans hh, r⟩
  · exact (heach q u f hu hf).only ho fun k hk => by
      have := (heach q u f hu hf).own hk
      exact hp k this.1 this.2.1
theorem OLa.more (h : OLa e T m w lo hi v n fs) (hh : hi ≤ hi') : OLa e T m w lo hi' v n fs := by
  obtain ⟨vs, h1, h2, h3, h4, h5⟩ := h
  exact ⟨vs, h1, fun g hg => Nat.lt_of_lt_of_le (h2 g hg) hh, h3, fun q u f hu hf => (h4 q u f hu hf).more (Nat.le_refl _) hh, h5⟩
theorem OLa.rl (h : OLa e T m w lo hi (.slice A n c) n fs) : RL m w hi A n c fs := by
  obtain ⟨vs, ho, hhi, hlen, heach, -⟩ := h
  refine ⟨by rw [← hlen, ho.1], ?_, fun hn => ?_⟩
  · rcases ho.2 with ⟨h1, rfl⟩ | ⟨g, cap, cur, h1, hg, hh, hn, _⟩
    · exact Nat.zero_le _
    · simp at h1; omega
  · rcases ho.2 with ⟨h1, rfl⟩ | ⟨g, cap, cur, h1, hg, hh, hn', hm', hs, ht⟩
    · omega
    · simp only [Value.slice.injEq] at h1
      obtain ⟨rfl, _, rfl⟩ := h1
      refine ⟨g, 0, rfl, hhi g rfl, fun p f hp => ?_⟩
      have hpl : p < vs.length := by
        have := (List.getElem?_eq_some_iff.1 hp).1
        rw [hlen]; exact this
      obtain ⟨u, hu⟩ : ∃ u, vs[p]? = some u := ⟨_, List.getElem?_eq_getElem hpl⟩
      refine ⟨u, ?_, (heach p u f hu hp).fv⟩
      rw [Nat.zero_add, ho.cellAt p (by rw [← ho.1]; exact hpl), hu]
theorem OLa.at_ {b : Nat} (h : OLa e T m w lo hi (.slice (some ⟨b, 0, none⟩) n c) n fs) {p : Nat} {f : Fl} (hp : fs[p]? = some f) :
    ∃ u, w.cell? ⟨b, p, none⟩ = some u ∧ FO e w lo hi u f ∧ (∀ g, u.ownBlock = some g → b ≠ g) := by
  obtain ⟨vs, ho, hhi, hlen, heach, hoff⟩ := h
  have hpl : p < vs.length := by
    have := (List.getElem?_eq_some_iff.1 hp).1
    rw [hlen]; exact this
  obtain ⟨u, hu⟩ : ∃ u, vs[p]? = some u := ⟨_, List.getElem?_eq_getElem hpl⟩
  exact ⟨u, by rw [ho.cellAt p (by rw [← ho.1]; exact hpl), hu], heach p u f hu hp, fun g hg hb => hoff u (List.mem_of_getElem? hu) g hg (by rw [hb]; rfl)⟩
theorem OLa.addr (h : OLa e T m w lo hi (.slice A n c) n fs) (hn : 0 < n) : ∃ b, A = some ⟨b, 0, none⟩ ∧ lo ≤ b ∧ b < hi := by
  obtain ⟨vs, ho, hhi, _⟩ := h
  rcases ho.2 with ⟨h1, h2⟩ | ⟨g, cap, cur, h1, hg, _⟩
  · omega
  · simp only [Value.slice.injEq] at h1
    exact ⟨g, h1.1, hg, hhi g (by rw [h1.1]; rfl)⟩
variable {P : Program} {ops : Array Oper} {rest : List Oper} {o : Oper} {a : Act} {Q : Exit → Act → World → Prop}
/-- 'append(v, r)', a record whose rows are there already -/
theorem wpList_pushA (w : World) (us : List Value) (gs : List Fl) (hgd : o.guard = none) (s x : Operand) (t : TypeId)
    (ho : o.op = .call { callee := .builtin .append, args := #[s, x], argTypes := #[t, t] })
    (e T m bytes : Nat) (z : Value) (ht : P.underlying t = some (.slice T)) (hinfo : (P.info? T).map (fun i => (i.zero, i.size, i.bytes)) = some (some z, m, bytes)) (hzs : z.cells.size = m) (hm0 : 0 < m) (hby : bytes ≤ 1024)
    {lo n : Nat} {v : Value} {fs : List Fl} (hs : a.eval s = v) (hO : OLa e T m w lo w.heap.size v n fs) (hul : us.length = gs.length) (hu : ∀ (p : Nat) u f, us[p]? = some u → gs[p]? = some f → FO e w lo w.heap.size u f) (hoff : ∀ u ∈ us, ∀ b, u.ownBlock = some b → v.ownBlock ≠ some b)
    (hus : us.length = m) (hx : a.eval x = .slice (some ⟨w.heap.size, 0, none⟩) 1 1) (hlo : lo ≤ w.heap.size) (hn : n < 1073741824)
    (h : ∀ A' c' w', OLa e T m w' lo w'.heap.size (.slice A' (n + 1) c') (n + 1) (fs ++ gs) → Only (fun b => v.ownBlock = some b) w w' → wpList P ops Q rest (a.put o.dst (.slice A' (n + 1) c')) w') :
    wpList P ops Q (o :: rest) a (w.alloc (.cells us.toArray T)) := by
  obtain ⟨i, hi, hz, hsz, hb⟩ := info_parts hinfo
  obtain ⟨vs, hown, hhi, hlen, heach, hof⟩ := hO
  have hone : ∀ u ∈ us, u.oneCell' = true := fun u hu' => by
    obtain ⟨p, hp, rfl⟩ := List.mem_iff_getElem.1 hu'
    have hp2 : p < gs.length := by rw [← hul]; exact hp
    exact (hu p _ _ (List.getElem?_eq_getElem hp) (List.getElem?_eq_getElem hp2)).one
  refine wpList_append_own_at (w.alloc (.cells us.toArray T)) hgd s x t ho lo T i z m bytes ht hi hz hsz hb hzs hm0 v n vs hs (hown.alloc _) ⟨w.heap.size, 0, none⟩ 1 1 us hx (by rw [hus, Nat.one_mul])
    (by have := World.news_of_block (w := w.alloc (.cells us.toArray T)) (B := w.heap.size) (cs := us.toArray) (t := T) (fr := (0, 0)) (heap_alloc_new w _); simpa using this) hone ?_ ?_ ?_ (fun v' w' h1 h2 _ h4 => ?_)
  · simp only [maxLen]; omega
  · have : (n + 1) * bytes ≤ 1073741824 * 1024 := Nat.mul_le_mul (by omega) hby
    omega
  · simp; omega
  · have hg := (World.grownBy_alloc w (.cells us.toArray T) v.ownBlock).trans h2
    have hon : Only (fun b => v.ownBlock = some b) w w' := Only.of_grown hg fun k hk => hk
    have hsp : ∀ (q : Nat) (u : Value) f, (vs ++ us)[q]? = some u → (fs ++ gs)[q]? = some f → FO e w lo w.heap.size u f ∧ ∀ b, u.ownBlock = some b → v.ownBlock ≠ some b := fun q u f hq hf => by
      by_cases hql : q < vs.length
      · rw [List.getElem?_append_left hql] at hq
        rw [List.getElem?_append_left (by rw [← hlen]; exact hql)] at hf
        exact ⟨heach q u f hq hf, hof u (List.mem_of_getElem? hq)⟩
      · rw [List.getElem?_append_right (by omega)] at hq
        rw [List.getElem?_append_right (by rw [← hlen]; omega), ← hlen] at hf
        exact ⟨hu _ u f hq hf, hoff u (List.mem_of_getElem? hq)⟩
    obtain ⟨A', c', rfl⟩ := ownsRow_form h1
    refine h _ _ _ ⟨vs ++ us, h1, fun g hgg => (h1.lt g hgg).2, by rw [List.length_append, List.length_append, hlen, hul], fun q u f hq hf => ?_, fun u hu' b hb' hc => ?_⟩ hon
    · have hk := hsp q u f hq hf
      exact (hk.1.only hon fun k hk' hc => hk.2 k hk' hc).hi_le
    · obtain ⟨q, hq⟩ := List.getElem?_of_mem hu'
      have hql := (List.getElem?_eq_some_iff.1 hq).1
      obtain ⟨f, hf⟩ : ∃ f, (fs ++ gs)[q]? = some f := ⟨_, List.getElem?_eq_getElem (by rw [List.length_append, ← hlen, ← hul, ← List.length_append]; exact hql)⟩
      have hk := hsp q u f hq hf
      rcases h4 with h4 | h4
      · exact hk.2 b hb' (h4 ▸ hc)
      · rw [hc] at h4
        have := (hk.1.own hb').2.1
        simp at h4
        omega
end
def vlen : Value → Nat
  | .slice _ n _ => n
  | _ => 0
theorem RL.zero (m : Nat) (w : World) (B c : Nat) (A : Option Addr) : RL m w B A 0 c [] := ⟨by simp, Nat.zero_le _, fun h => absurd h (by omega)⟩
/-- a batch is drawn: it reads so whatever turns ahead of it -/
def DrawnBt (B : Nat) (A : Option Addr) (n cap a : Nat) (w : World) (e : Ending) (w' : World) : Prop :=
  ∃ (A' : Option Addr) (n' c' : Nat) (ps : List PrD), e = .returned (.slice A' n' c') ∧ n' ≤ 6 ∧ prL ps ∧ (∀ (p : Nat → Prop) (W : World), Only p w' W → (∀ k, w.heap.size ≤ k → ¬ p k) → RL 2 W w'.heap.size A' n' c' (ps.flatMap prF)) ∧ Only (fun b => b = a) w w' ∧ Cur B A n cap a w'
section
variable {B n cap a : Nat} {A : Option Addr}
set_option maxHeartbeats 4000000 in
theorem spec_l6AnyBatch {lo hi nm cm : Nat} {Am : Option Addr} {ds : List OpD} (w : World) (h : Cur B A n cap a w) (hm : OwOps w lo hi (.slice Am nm cm) nm (ds.flatMap opF)) (hlo : a < lo) (hhi : hi ≤ w.heap.size) (hn : nm ≤ 1048576) (hsm : SmO ds) :
    Calls Try.prog 119 #[.pointer (some ⟨a, 0, none⟩), Modv Am nm cm] w (DrawnBt B A n cap a w) := by
  have hlt := h.lt
  have hBa := h.base
  obtain ⟨w1, hw1⟩ : ∃ W, W = w.alloc (.cells #[.slice Am nm cm] 36) := ⟨_, rfl⟩
  have hb1 : Below w.heap.size w w1 := hw1 ▸ (Below.refl _ _).alloc (Nat.le_refl _) _
  have s1 : w.heap.size < w1.heap.size := by rw [hw1]; simp
  have m0 : w1.cell? ⟨w.heap.size, 0, none⟩ = some (.slice Am nm cm) := by rw [hw1]; simp
  have HW1 := hide hw1
  have HB := hide (spec_l6Batch w1 (h.below hb1) (hm.below hb1) hlo (by omega) hn hsm)
  have HO1 := hide (show Only (fun b => b = a) w w1 from Only.of_below hb1)
  clear hw1 hb1 h hm hlo hhi hsm
  go_enter Try.func119, Try.ntmps119
  go_wp2_with fail
  rw [← HW1.out]
  refine HB.out.mono ?_
  rintro e w2 ⟨A2, n2, c2, ps, rfl, hn1, hn4, hps, hO2, ho2, hc2⟩
  have hs2 := ho2.size
  obtain ⟨g, rfl⟩ := hO2.addr (by omega)
  have hg := hO2.lt g rfl
  have hg0 := hg.1
  have hg1 := hg.2.1
  have hpl := hO2.rl.row prF_len (by omega)
  obtain ⟨p0, qs, hpq⟩ : ∃ p0 qs, ps = p0 :: qs := by
    cases ps with
    | nil => simp at hpl; omega
    | cons p0 qs => exact ⟨p0, qs, rfl⟩
  have HPQ := hide hpq
  have HPS := hide hps
  have HO2 := hide (HO1.out.trans ho2)
  have HOW2 := hide hO2
  clear hg hpl hpq hps ho2 hO2 HB m0
  go_wp2_with fail
  refine (spec_l1Below 16 w2 hc2 (by omega) (by omega)).mono ?_
  rintro e w3 ⟨z, rfl, hz0, hz1, ho3, hc3⟩
  have hs3 := ho3.size
  have HO3 := hide (HO2.out.trans ho3)
  have HOW3 := hide (HOW2.out.only ho3 (fun q h1 h2 h3 => by omega))
  have HC3 := hide hc3
  clear ho3 hc2 hc3 HO1 HO2 HOW2
  by_cases z0 : z = 0
  · subst z0
    go_wp2_with fail
    go_ret
    have hb : Below w3.heap.size w3 (w3.alloc (.cells #[] 38)) := (Below.refl _ _).alloc (Nat.le_refl _) _
    exact ⟨_, 0, 0, [], rfl, by omega, prL.nil, fun _ W _ _ => RL.zero _ _ _ _ _, HO3.out.trans (Only.of_below hb), HC3.out.below hb⟩
  have b0 : (z == 0) = false := by simpa using z0
  by_cases z1 : z = 1
  · subst z1
    go_wp2_with fail
    refine (spec_l3Any w3 HC3.out).mono ?_
    rintro e w4 ⟨v, xs, rfl, hl0, hl1, hxs, hO4, ho4, hc4⟩
    obtain ⟨A4, n4, c4, rfl, _⟩ := hO4.rv
    have hs4 := ho4.size
    have HOW4 := hide ((HOW3.out.only ho4 (fun q h1 h2 h3 => by omega)).more (Nat.le_refl _) (show w2.heap.size ≤ w3.heap.size from hs3))
    have HO4 := hide (HO3.out.trans ho4)
    have HC4 := hide hc4
    have h00 : (ps.flatMap prF)[0]? = some (.s p0.x) := by rw [HPQ.out]; rfl
    obtain ⟨u, e0, f0, _⟩ := HOW4.out.at_ h00
    have hput := HOW4.out.put (p := 0) (f := .s xs) (u := .slice A4 n4 c4) (hi := w4.heap.size) (List.getElem?_eq_some_iff.1 h00).1 rfl hO4 hs4
    rw [show (ps.flatMap prF).set 0 (.s xs) = (ps.set 0 ⟨xs, p0.t⟩).flatMap prF from by rw [HPQ.out]; rfl] at hput
    have HP := hide hput
    have hpt := (HPS.out p0 (by rw [HPQ.out]; simp)).2
    clear ho4 hc4 hxs hput hO4 h00
    go_wp2_with fail
    go_ret
    have hset : Only (fun b => b = g) w4 (w4.setCell ⟨g, 0, none⟩ (.slice A4 n4 c4)) := (Only.refl (fun b => b = g) w4).set g 0 rfl _
    have hH : Only (fun b => w.heap.size ≤ b) w4 (w4.setCell ⟨g, 0, none⟩ (.slice A4 n4 c4)) := hset.mono (fun q hq => by omega)
    have hs5 := hset.size
    exact ⟨_, n2, c2, ps.set 0 ⟨xs, p0.t⟩, rfl, by omega, HPS.out.set (p := ⟨xs, p0.t⟩) (by show xs.length ≤ 7; omega) hpt 0, fun p W hW hp => ((HP.out.only hW (fun k h1 _ => hp k (by omega))).more (Nat.le_refl _) hs5).rl, only_newO HO4.out hH (Nat.le_refl _), HC4.out.only hH (fun q hq => by omega)⟩
  have b1 : (z == 1) = false := by simpa using z1
  by_cases z2 : z = 2
  · subst z2
    go_wp2_with fail
    go_loopw [5] (fun bv wr => ∃ (k : Nat) (A' : Option Addr) (c' : Nat) (rs : List PrD), bv = .slice A' k c' ∧ 1 ≤ k ∧ k ≤ 6 ∧ prL rs ∧ OLa 3 38 2 wr w1.heap.size wr.heap.size (.slice A' k c') k (rs.flatMap prF) ∧ w1.heap.size ≤ wr.heap.size ∧ Only (fun b => b = a) w wr ∧ Cur B A n cap a wr)
      (fun bv _ => 6 - vlen bv)
    case atStart => exact ⟨n2, _, c2, ps, rfl, by omega, by omega, HPS.out, HOW3.out.a.more hs3, by omega, HO3.out, HC3.out⟩
    case round =>
      obtain ⟨k, A5, c5, rs, rfl, hk1, hk6, hrs, hown, hsz, ho, hc⟩ := hrel
      clear hg0 hg1
      obtain ⟨g5, rfl, hg0, hg1⟩ := hown.addr (by omega)
      have hrl := hown.rl.row prF_len (by omega)
      obtain ⟨r0, ts, hrt⟩ : ∃ r0 ts, rs = r0 :: ts := by
        cases rs with
        | nil => simp at hrl; omega
        | cons r0 ts => exact ⟨r0, ts, rfl⟩
      have HRT := hide hrt
      have HRS := hide hrs
      have HOW := hide hown
      have HO := hide ho
      clear hrl hrt hrs hown ho
      go_wp2_with fail
      refine (spec_l1Below 2 wr hc (by omega) (by omega)).mono ?_
      rintro e w4 ⟨y, rfl, hy0, hy1, ho4, hc4⟩
      have hs4 := ho4.size
      have HOW4 := hide ((HOW.out.only ho4 (fun q h1 h2 h3 => by omega)).more hs4)
      have HO4 := hide (HO.out.trans ho4)
      have HC4 := hide hc4
      clear ho4 hc hc4
      by_cases hk : (k : Int) < 5 + y
      · have hk5 : k ≤ 5 := by omega
        obtain ⟨u0, e0, q0, d0⟩ := HOW4.out.at_ (p := 0) (f := .s r0.x) (by rw [HRT.out]; rfl)
        obtain ⟨u1, e1, q1, d1⟩ := HOW4.out.at_ (p := 1) (f := .s r0.t) (by rw [HRT.out]; rfl)
        have q0' : OI 3 w4 w1.heap.size w4.heap.size u0 r0.x := q0
        have q1' : OI 3 w4 w1.heap.size w4.heap.size u1 r0.t := q1
        obtain ⟨A6, n6, c6, rfl, _⟩ := q0'.rv
        obtain ⟨A7, n7, c7, rfl, _⟩ := q1'.rv
        have HEA := hide (show ∀ (p : Nat) u f, [Value.slice A6 n6 c6, .slice A7 n7 c7][p]? = some u → [Fl.s r0.x, .s r0.t][p]? = some f → FO 3 w4 w1.heap.size w4.heap.size u f from fun p u f hu hf => by
          match p with
          | 0 => simp at hu hf; subst hu; subst hf; exact q0
          | 1 => simp at hu hf; subst hu; subst hf; exact q1
          | p + 2 => simp at hu)
        have HOF := hide (show ∀ u ∈ [Value.slice A6 n6 c6, .slice A7 n7 c7], ∀ b, u.ownBlock = some b → (Value.slice (some ⟨g5, 0, none⟩) k c5).ownBlock ≠ some b from fun u hu b hb hc => by
          have hgb : g5 = b := by simpa [Value.ownBlock] using hc
          simp at hu
          rcases hu with rfl | rfl
          · exact d0 b hb hgb
          · exact d1 b hb hgb)
        have hpp := HRS.out r0 (by rw [HRT.out]; simp)
        have HPP := hide hpp
        have hkb : k < 1073741824 := by omega
        have hlw : w1.heap.size ≤ w4.heap.size := by omega
        have hk0 : (0 : Int) < (k : Int) := by omega
        have gate0 : True := trivial
        clear q0 q1 q0' q1' d0 d1 hpp
        go_wp2_with (first
          | (at_builtin; clear gate0; go_must (refine wpList_pushA w4 [.slice A6 n6 c6, .slice A7 n7 c7] [.s r0.x, .s r0.t] rfl (.tmp 29) (.tmp 33) _ rfl 3 38 2 48 _ Try.underlying80 pair_info rfl (by omega) (by omega) rfl HOW4.out rfl HEA.out HOF.out rfl rfl hlw hkb ?_); intro A9 c9 w9 hO9 hon9; have hon9 : Only (fun b => (Value.slice (some ⟨g5, 0, none⟩) k c5).ownBlock = some b) w4 w9 := hon9; have hs9 := hon9.size; have HO9 := hide hO9; have HON9 := hide (hon9.mono (q := fun b => w.heap.size ≤ b) (fun q hq => by (have h9 : g5 = q := (by simpa [Value.ownBlock] using hq); omega))); clear hO9 hon9))
        go_roundw
        case rel => exact ⟨k + 1, A9, c9, rs ++ [r0], rfl, by omega, by omega, HRS.out.snoc HPP.out.1 HPP.out.2, by rw [flat_one]; exact HO9.out, by omega, only_newO HO4.out HON9.out (Nat.le_refl _), HC4.out.only HON9.out (fun q hq => by omega)⟩
        case measure => simp only [vlen]; omega
      · go_wp2_with fail
        go_ret
        exact ⟨_, k, c5, rs, rfl, hk6, HRS.out, fun p W hW hp => (HOW4.out.only hW (fun q h1 _ => hp q (by omega))).rl, HO4.out, HC4.out⟩
  have b2 : (z == 2) = false := by simpa using z2
  clear z0 z1 z2
  go_wp2_with fail
  go_ret
  exact ⟨_, n2, c2, ps, rfl, by omega, HPS.out, fun p W hW hp => ((HOW3.out.only hW (fun q h1 _ => hp q (by omega))).more (Nat.le_refl _) hs3).rl, HO3.out, HC3.out⟩
end
end Go.Proofs.Ytehfglfbnjdcoaa
namespace Go.Proofs.Ytehfglfbnjdcoaa
open Go.RowKit
set_option maxRecDepth 100000

def DrawnMB (w : World) (e : Ending) (w' : World) : Prop :=
  ∃ (A1 : Option Addr) (n1 c1 : Nat) (ds : List OpD) (A2 : Option Addr) (n2 c2 : Nat) (ps : List PrD), e = .returned (.tuple #[Modv A1 n1 c1, .slice A2 n2 c2]) ∧ n1 ≤ 9 ∧ n2 ≤ 6 ∧ opL ds ∧ prL ps ∧ RL 4 w' w'.heap.size A1 n1 c1 (ds.flatMap opF) ∧ RL 2 w' w'.heap.size A2 n2 c2 (ps.flatMap prF) ∧ Below w.heap.size w w'
set_option maxHeartbeats 2000000 in
theorem spec_DrawBatchOk {B n cap : Nat} {A : Option Addr} (w : World) (hb : BA w B A n cap) (hB : B ≤ w.heap.size) : Calls Try.prog 65 #[.slice A n cap] w (DrawnMB w) := by
  obtain ⟨w0, hw0⟩ : ∃ W, W = w.alloc (.cells #[.slice none 0 0] 36) := ⟨_, rfl⟩
  have hb0 : Below w.heap.size w w0 := hw0 ▸ (Below.refl _ _).alloc (Nat.le_refl _) _
  have s0 : w.heap.size < w0.heap.size := by rw [hw0]; simp
  have PR := hide (show w0.heap[w.heap.size]? = some (.cells #[.slice none 0 0] 36 (0, 0)) from by rw [hw0]; exact heap_alloc_new _ _)
  have HW0 := hide hw0
  have HN := hide (spec_l1New w0 (hb.below (hb0.mono hB)) (by omega))
  have HB0 := hide hb0
  clear hw0 hb0 hb
  go_enter Try.func65, Try.ntmps65
  go_wp2_with fail
  rw [← HW0.out]
  refine HN.out.mono ?_
  rintro e w1 ⟨rfl, hb1, hc1⟩
  have hs1 := hb1.size
  have HB1 := hide (HB0.out.trans (hb1.mono (by omega)))
  have PR1 := hide ((hb1.block _ (by omega)).trans PR.out)
  have hca1 := hc1.lt
  clear hb1 HN
  go_wp2_with fail
  refine (spec_l6Any w1 hc1).mono ?_
  rintro e w2 ⟨A3, n3, c3, ds, rfl, hn0, hn9, hds, hO, ho2, hc2⟩
  have hs2 := ho2.size
  have HDS := hide hds
  have HB2 := hide (HB1.out.trans (ho2.below (B := w.heap.size) (by omega) (fun q hq e => by omega)))
  have PR2 := hide ((ho2.block _ (by omega) (by omega)).trans PR1.out)
  obtain ⟨w3, hw3⟩ : ∃ W, W = w2.alloc (.cells #[.slice A3 n3 c3] 36) := ⟨_, rfl⟩
  have hb3 : Below w2.heap.size w2 w3 := hw3 ▸ (Below.refl _ _).alloc (Nat.le_refl _) _
  have pg3 : w3.heap[w2.heap.size]? = some (.cells #[.slice A3 n3 c3] 36 (0, 0)) := by rw [hw3]; exact heap_alloc_new _ _
  have hl3 : w2.heap.size < w3.heap.size := by rw [hw3]; simp
  have PG3 := hide pg3
  have HW3 := hide hw3
  have HB3 := hide (HB2.out.trans (hb3.mono (by omega)))
  have PR3 := hide ((hb3.block _ (by omega)).trans PR2.out)
  have HM3 := hide ((hO.below hb3).below ((Below.refl _ w3).drew))
  have HC3 := hide (hc2.below hb3)
  have g0 := blk_cell pg3 0
  simp at g0
  clear hw3 hb3 pg3 hO hc2 hc1 ho2 hds
  go_wp2_with fail
  rw [← HW3.out]
  have gate0 : True := trivial
  go_region_held3 (fun W => W.cell? ⟨w2.heap.size, 0, none⟩ = some (.slice A3 n3 c3)) (first | exact g0 | exact gk0) (first
    | (clear gate0; go_at_call 119; refine (spec_l6AnyBatch w3.drew HC3.out.drewO HM3.out (by omega) (by show w2.heap.size ≤ w3.heap.size; omega) (by omega) HDS.out.smO).mono ?_; rintro e w4 ⟨A4, n4, c4, ps, rfl, hn4, hps, hR4, ho4, hc4⟩; have ho4 : Only (fun b => b = w0.heap.size) w3 w4 := ho4.undrewO; have hR4 : ∀ (p : Nat → Prop) (W : World), Only p w4 W → (∀ k, w3.heap.size ≤ k → ¬ p k) → RL 2 W w4.heap.size A4 n4 c4 (ps.flatMap prF) := hR4; have hs4 := ho4.size; have HM4 := hide (HM3.out.only (w := w3.drew) (w' := w4) (p := fun b => b = w0.heap.size) ⟨ho4.os, ho4.tape, ho4.output, ho4.size, ho4.block⟩ (fun q h1 h2 h3 => by omega)); have HR4 := hide hR4; have HPS := hide hps; have HB4 := hide (HB3.out.trans (ho4.below (B := w.heap.size) (by omega) (fun q hq e => by omega))); have pr4 := (ho4.block w.heap.size (by omega) (by omega)).trans PR3.out; have pg4 := (ho4.block w2.heap.size (by omega) (by omega)).trans PG3.out; have gk := blk_far pg4 (b := w.heap.size) (j := 0) (by omega) (.slice A3 n3 c3); have gk0 := blk_cell gk 0; replace g0 := blk_cell pg4 0; have r0 := blk_cell pr4 0; have rf := blk_free pr4 0; simp at gk0 g0 r0; have PR4 := hide pr4; clear gk pr4 pg4 hR4 hps ho4 hc4))
  all_goals go_wp2_with fail
  all_goals refine bodyPost_ret (results_cell_row2 (P := Try.prog) (d := _) rfl _ _ w.heap.size 36 #[.slice A3 n3 c3] (0, 0) rfl ?_ Try.underlying36 rfl rfl) rfl ?_
  all_goals first
    | exact blk_set PR4.out 0 _
    | (have hset : Only (fun b => b = w.heap.size) w4 (w4.setCell ⟨w.heap.size, 0, none⟩ (.slice A3 n3 c3)) := (Only.refl (fun b => b = w.heap.size) w4).set w.heap.size 0 rfl _
       have hs5 := hset.size
       exact ⟨A3, n3, c3, ds, A4, n4, c4, ps, rfl, hn9, hn4, HDS.out, HPS.out, ((HM4.out.only hset (fun q h1 h2 h3 => by have h4 : q = w.heap.size := h3; omega)).rl).more (by omega), (HR4.out _ _ hset (fun k hk h3 => by have h4 : k = w.heap.size := h3; omega)).more hs5, below_set HB4.out _ _ (Nat.le_refl _) _⟩)
set_option maxHeartbeats 2000000 in
theorem spec_DrawSequential {B n cap : Nat} {A : Option Addr} (w : World) (hb : BA w B A n cap) (hB : B ≤ w.heap.size) : Calls Try.prog 58 #[.slice A n cap] w (DrawnMB w) := by
  obtain ⟨w0, hw0⟩ : ∃ W, W = w.alloc (.cells #[.slice none 0 0] 36) := ⟨_, rfl⟩
  have hb0 : Below w.heap.size w w0 := hw0 ▸ (Below.refl _ _).alloc (Nat.le_refl _) _
  have s0 : w.heap.size < w0.heap.size := by rw [hw0]; simp
  have PR := hide (show w0.heap[w.heap.size]? = some (.cells #[.slice none 0 0] 36 (0, 0)) from by rw [hw0]; exact heap_alloc_new _ _)
  have HW0 := hide hw0
  have HN := hide (spec_l1New w0 (hb.below (hb0.mono hB)) (by omega))
  have HB0 := hide hb0
  clear hw0 hb0 hb
  go_enter Try.func58, Try.ntmps58
  go_wp2_with fail
  rw [← HW0.out]
  refine HN.out.mono ?_
  rintro e w1 ⟨rfl, hb1, hc1⟩
  have hs1 := hb1.size
  have HB1 := hide (HB0.out.trans (hb1.mono (by omega)))
  have PR1 := hide ((hb1.block _ (by omega)).trans PR.out)
  have hca1 := hc1.lt
  clear hb1 HN
  go_wp2_with fail
  refine (spec_l6Any w1 hc1).mono ?_
  rintro e w2 ⟨A3, n3, c3, ds, rfl, hn0, hn9, hds, hO, ho2, hc2⟩
  have hs2 := ho2.size
  have HDS := hide hds
  have HB2 := hide (HB1.out.trans (ho2.below (B := w.heap.size) (by omega) (fun q hq e => by omega)))
  have PR2 := hide ((ho2.block _ (by omega) (by omega)).trans PR1.out)
  obtain ⟨w3, hw3⟩ : ∃ W, W = w2.alloc (.cells #[.slice A3 n3 c3] 36) := ⟨_, rfl⟩
  have hb3 : Below w2.heap.size w2 w3 := hw3 ▸ (Below.refl _ _).alloc (Nat.le_refl _) _
  have pg3 : w3.heap[w2.heap.size]? = some (.cells #[.slice A3 n3 c3] 36 (0, 0)) := by rw [hw3]; exact heap_alloc_new _ _
  have hl3 : w2.heap.size < w3.heap.size := by rw [hw3]; simp
  have PG3 := hide pg3
  have HW3 := hide hw3
  have HB3 := hide (HB2.out.trans (hb3.mono (by omega)))
  have PR3 := hide ((hb3.block _ (by omega)).trans PR2.out)
  have HM3 := hide ((hO.below hb3).below ((Below.refl _ w3).drew))
  have HC3 := hide (hc2.below hb3)
  have g0 := blk_cell pg3 0
  simp at g0
  clear hw3 hb3 pg3 hO hc2 hc1 ho2 hds
  go_wp2_with fail
  rw [← HW3.out]
  have gate0 : True := trivial
  go_region_held3 (fun W => W.cell? ⟨w2.heap.size, 0, none⟩ = some (.slice A3 n3 c3)) (first | exact g0 | exact gk0) (first
    | (clear gate0; go_at_call 119; refine (spec_l6AnyBatch w3.drew HC3.out.drewO HM3.out (by omega) (by show w2.heap.size ≤ w3.heap.size; omega) (by omega) HDS.out.smO).mono ?_; rintro e w4 ⟨A4, n4, c4, ps, rfl, hn4, hps, hR4, ho4, hc4⟩; have ho4 : Only (fun b => b = w0.heap.size) w3 w4 := ho4.undrewO; have hR4 : ∀ (p : Nat → Prop) (W : World), Only p w4 W → (∀ k, w3.heap.size ≤ k → ¬ p k) → RL 2 W w4.heap.size A4 n4 c4 (ps.flatMap prF) := hR4; have hs4 := ho4.size; have HM4 := hide (HM3.out.only (w := w3.drew) (w' := w4) (p := fun b => b = w0.heap.size) ⟨ho4.os, ho4.tape, ho4.output, ho4.size, ho4.block⟩ (fun q h1 h2 h3 => by omega)); have HR4 := hide hR4; have HPS := hide hps; have HB4 := hide (HB3.out.trans (ho4.below (B := w.heap.size) (by omega) (fun q hq e => by omega))); have pr4 := (ho4.block w.heap.size (by omega) (by omega)).trans PR3.out; have pg4 := (ho4.block w2.heap.size (by omega) (by omega)).trans PG3.out; have gk := blk_far pg4 (b := w.heap.size) (j := 0) (by omega) (.slice A3 n3 c3); have gk0 := blk_cell gk 0; replace g0 := blk_cell pg4 0; have r0 := blk_cell pr4 0; have rf := blk_free pr4 0; simp at gk0 g0 r0; have PR4 := hide pr4; clear gk pr4 pg4 hR4 hps ho4 hc4))
  all_goals go_wp2_with fail
  all_goals refine bodyPost_ret (results_cell_row2 (P := Try.prog) (d := _) rfl _ _ w.heap.size 36 #[.slice A3 n3 c3] (0, 0) rfl ?_ Try.underlying36 rfl rfl) rfl ?_
  all_goals first
    | exact blk_set PR4.out 0 _
    | (have hset : Only (fun b => b = w.heap.size) w4 (w4.setCell ⟨w.heap.size, 0, none⟩ (.slice A3 n3 c3)) := (Only.refl (fun b => b = w.heap.size) w4).set w.heap.size 0 rfl _
       have hs5 := hset.size
       exact ⟨A3, n3, c3, ds, A4, n4, c4, ps, rfl, hn9, hn4, HDS.out, HPS.out, ((HM4.out.only hset (fun q h1 h2 h3 => by have h4 : q = w.heap.size := h3; omega)).rl).more (by omega), (HR4.out _ _ hset (fun k hk h3 => by have h4 : k = w.heap.size := h3; omega)).more hs5, below_set HB4.out _ _ (Nat.le_refl _) _⟩)
end Go.Proofs.Ytehfglfbnjdcoaa
namespace Go.Proofs.Ytehfglfbnjdcoaa
open Go.RowKit
set_option maxRecDepth 100000

theorem results_cell_cell {P : Program} {fn : Func} {p q : Tmp} {ty tz : TypeId} (h : fn.results = #[.cell p ty, .cell q tz]) (tmps : Array Value) (w : World) (g g' : Nat) (t t' : TypeId) (cs cs' : Array Value) (fr fr' : Nat × Nat) (d d' : TypeDesc)
    (hp : tmps.getD p undef = .pointer (some ⟨g, 0, none⟩)) (hq : tmps.getD q undef = .pointer (some ⟨g', 0, none⟩)) (hg : w.heap[g]? = some (.cells cs t fr)) (hg' : w.heap[g']? = some (.cells cs' t' fr'))
    (hu : P.underlying ty = some d) (hd : (match d with | .struct _ | .array _ _ => true | _ => false) = true) (hi : (P.info? ty).map (·.size) = some cs.size)
    (hu' : P.underlying tz = some d') (hd' : (match d' with | .struct _ | .array _ _ => true | _ => false) = true) (hi' : (P.info? tz).map (·.size) = some cs'.size) :
    (results fn tmps).run P w = .ok (.tuple #[.agg cs, .agg cs']) w := by
  have hp' : tmps[p]?.getD undef = .pointer (some ⟨g, 0, none⟩) := by simpa using hp
  have hq' : tmps[q]?.getD undef = .pointer (some ⟨g', 0, none⟩) := by simpa using hq
  simp [results, h, hp', hq', asAddr, run_loadVar_row w g t ty cs fr d hg hu hd hi, run_loadVar_row w g' t' tz cs' fr' d' hg' hu' hd' hi']
theorem keep3 {W : World} {R : Nat} {p : Addr} {x v0 v1 v2 : Value} (h : W.cell? p = some x) (hne : R ≠ p.block) : (((W.setCell ⟨R, 0, none⟩ v0).setCell ⟨R, 1, none⟩ v1).setCell ⟨R, 2, none⟩ v2).cell? p = some x := by
  rw [World.cell?_setCell_far _ _ _ _ hne, World.cell?_setCell_far _ _ _ _ hne, World.cell?_setCell_far _ _ _ _ hne]; exact h
/-- five cells behind three stores elsewhere -/
theorem keep5 {W : World} {R : Nat} {p1 p2 p3 p4 p5 : Addr} {x1 x2 x3 x4 x5 : Value} (v0 v1 v2 : Value) (h : W.cell? p1 = some x1 ∧ W.cell? p2 = some x2 ∧ W.cell? p3 = some x3 ∧ W.cell? p4 = some x4 ∧ W.cell? p5 = some x5)
    (h1 : R ≠ p1.block) (h2 : R ≠ p2.block) (h3 : R ≠ p3.block) (h4 : R ≠ p4.block) (h5 : R ≠ p5.block) :
    (((W.setCell ⟨R, 0, none⟩ v0).setCell ⟨R, 1, none⟩ v1).setCell ⟨R, 2, none⟩ v2).cell? p1 = some x1 ∧ (((W.setCell ⟨R, 0, none⟩ v0).setCell ⟨R, 1, none⟩ v1).setCell ⟨R, 2, none⟩ v2).cell? p2 = some x2 ∧ (((W.setCell ⟨R, 0, none⟩ v0).setCell ⟨R, 1, none⟩ v1).setCell ⟨R, 2, none⟩ v2).cell? p3 = some x3 ∧
    (((W.setCell ⟨R, 0, none⟩ v0).setCell ⟨R, 1, none⟩ v1).setCell ⟨R, 2, none⟩ v2).cell? p4 = some x4 ∧ (((W.setCell ⟨R, 0, none⟩ v0).setCell ⟨R, 1, none⟩ v1).setCell ⟨R, 2, none⟩ v2).cell? p5 = some x5 :=
  ⟨keep3 h.1 h1, keep3 h.2.1 h2, keep3 h.2.2.1 h3, keep3 h.2.2.2.1 h4, keep3 h.2.2.2.2 h5⟩
theorem keepB {w w' : World} {p1 p2 p3 p4 p5 : Addr} {x1 x2 x3 x4 x5 : Value} (hb : Below w.heap.size w w') (h : w.cell? p1 = some x1 ∧ w.cell? p2 = some x2 ∧ w.cell? p3 = some x3 ∧ w.cell? p4 = some x4 ∧ w.cell? p5 = some x5) :
    w'.cell? p1 = some x1 ∧ w'.cell? p2 = some x2 ∧ w'.cell? p3 = some x3 ∧ w'.cell? p4 = some x4 ∧ w'.cell? p5 = some x5 :=
  ⟨cellB hb h.1, cellB hb h.2.1, cellB hb h.2.2.1, cellB hb h.2.2.2.1, cellB hb h.2.2.2.2⟩
theorem flatGn {P : Program} {f : Nat} {a : Array Value} {w : World} {g : GrD} {rows : List (List Int)} {loss : Int} {s : Bool} {n : Nat} (h : Calls P f a w (GiveG w g)) (hg : g = ⟨rows, loss, s⟩) (hn : rows.length = n) :
    Calls P f a w fun e' w' => ∃ A1 c1, e' = .returned (Grv A1 n c1 loss s) ∧ OwRows w' w.heap.size w'.heap.size (.slice A1 n c1) n (rows.flatMap rowF) ∧ Below w.heap.size w w' := by
  subst hg; subst hn; exact h
/-- two gradients; nothing that was there has turned -/
def DrawnGG (w : World) (e : Ending) (w' : World) : Prop :=
  ∃ (A1 : Option Addr) (c1 : Nat) (x : GrD) (A2 : Option Addr) (c2 : Nat) (y : GrD), e = .returned (.tuple #[Grv A1 x.rows.length c1 x.loss x.sat, Grv A2 y.rows.length c2 y.loss y.sat]) ∧ SmG 8 36 x.rows ∧ SmG 8 36 y.rows ∧
    RL 1 w' w'.heap.size A1 x.rows.length c1 (x.rows.flatMap rowF) ∧ RL 1 w' w'.heap.size A2 y.rows.length c2 (y.rows.flatMap rowF) ∧ Below w.heap.size w w'
set_option maxHeartbeats 8000000 in
theorem spec_DrawAddGrads {B n cap : Nat} {A : Option Addr} (w : World) (hb : BA w B A n cap) (hB : B ≤ w.heap.size) : Calls Try.prog 71 #[.slice A n cap] w (DrawnGG w) := by
  obtain ⟨wa, hwa⟩ : ∃ W, W = w.alloc (.cells #[.slice none 0 0, .int .i64 0, .bool false] 32) := ⟨_, rfl⟩
  obtain ⟨w0, hw0⟩ : ∃ W, W = wa.alloc (.cells #[.slice none 0 0, .int .i64 0, .bool false] 32) := ⟨_, rfl⟩
  have sa : wa.heap.size = w.heap.size + 1 := by rw [hwa]; simp
  have s0' : w0.heap.size = w.heap.size + 1 + 1 := by rw [hw0]; simp [sa]
  have hb0 : Below w.heap.size w w0 := hw0 ▸ (hwa ▸ (Below.refl _ _).alloc (Nat.le_refl _) _ : Below w.heap.size w wa).alloc (by omega) _
  have PR := hide (show w0.heap[w.heap.size]? = some (.cells #[.slice none 0 0, .int .i64 0, .bool false] 32 (0, 0)) from by
    rw [hw0, Below.heap_alloc _ _ _ (by omega), hwa]; exact heap_alloc_new _ _)
  have PS := hide (show w0.heap[w.heap.size + 1]? = some (.cells #[.slice none 0 0, .int .i64 0, .bool false] 32 (0, 0)) from by
    rw [← sa, hw0]; exact heap_alloc_new _ _)
  have s0 : w.heap.size + 1 < w0.heap.size := by omega
  have HWA := hide hwa
  have HW0 := hide hw0
  have HN := hide (spec_l1New w0 (hb.below (hb0.mono hB)) (by omega))
  have HB0 := hide hb0
  clear hwa hw0 hb0 hb sa s0'
  go_enter Try.func71, Try.ntmps71
  go_wp2_with fail
  rw [← HWA.out, ← HW0.out]
  refine HN.out.mono ?_
  rintro e w1 ⟨rfl, hb1, hc1⟩
  have hs1 := hb1.size
  have HB1 := hide (HB0.out.trans (hb1.mono (by omega)))
  have PR1 := hide ((hb1.block w.heap.size (by omega)).trans PR.out)
  have PS1 := hide ((hb1.block (w.heap.size + 1) (by omega)).trans PS.out)
  have hca1 := hc1.lt
  clear hb1 HN
  go_wp2_with fail
  refine (spec_l6Model w1 hc1).mono ?_
  rintro e w2 ⟨A3, n3, c3, ds, rfl, hn0, hn9, hds, hO, ho2, hc2⟩
  have hs2 := ho2.size
  have HDS := hide hds
  have HB2 := hide (HB1.out.trans (ho2.below (B := w.heap.size) (by omega) (fun q hq e => by omega)))
  have PR2 := hide ((ho2.block w.heap.size (by omega) (by omega)).trans PR1.out)
  have PS2 := hide ((ho2.block (w.heap.size + 1) (by omega) (by omega)).trans PS1.out)
  obtain ⟨w3, hw3⟩ : ∃ W, W = w2.alloc (.cells #[.slice A3 n3 c3] 36) := ⟨_, rfl⟩
  have hb3 : Below w2.heap.size w2 w3 := hw3 ▸ (Below.refl _ _).alloc (Nat.le_refl _) _
  have pg3 : w3.heap[w2.heap.size]? = some (.cells #[.slice A3 n3 c3] 36 (0, 0)) := by rw [hw3]; exact heap_alloc_new _ _
  have hl3 : w2.heap.size < w3.heap.size := by rw [hw3]; simp
  have PG3 := hide pg3
  have HW3 := hide hw3
  have HB3 := hide (HB2.out.trans (hb3.mono (by omega)))
  have PR3 := hide ((hb3.block w.heap.size (by omega)).trans PR2.out)
  have PS3 := hide ((hb3.block (w.heap.size + 1) (by omega)).trans PS2.out)
  have HM3 := hide (hO.below hb3)
  have HC3 := hide (hc2.below hb3)
  have g0 := blk_cell pg3 0
  simp at g0
  clear hw3 hb3 pg3 hO hc2 hc1 ho2 hds
  go_wp2_with fail
  rw [← HW3.out]
  refine (spec_l6Batch w3 HC3.out HM3.out (by omega) (by omega) (by omega) HDS.out.smO).mono ?_
  rintro e w4 ⟨A4, n4, c4, ps, rfl, hm0, hm4, hps, hO4, ho4, hc4⟩
  have hs4 := ho4.size
  obtain ⟨g, rfl⟩ := hO4.addr (by omega)
  have hg := hO4.lt g rfl
  have hg0 := hg.1
  have hpl := hO4.rl.row prF_len (by omega)
  obtain ⟨K, hK⟩ : ∃ K, n4 = K + 1 := ⟨n4 - 1, by omega⟩
  obtain ⟨p0, hp0⟩ : ∃ p, ps[0]? = some p := ⟨_, List.getElem?_eq_getElem (by omega)⟩
  obtain ⟨p1, hp1⟩ : ∃ p, ps[K]? = some p := ⟨_, List.getElem?_eq_getElem (by omega)⟩
  obtain ⟨u0, e0, _, q0⟩ := hO4.at_ ((flat_get prF 2 prF_len ps 0 0 p0 hp0 (by omega)).trans rfl)
  obtain ⟨u1, e1, _, q1⟩ := hO4.at_ ((flat_get prF 2 prF_len ps 0 1 p0 hp0 (by omega)).trans rfl)
  obtain ⟨u2, e2, _, q2⟩ := hO4.at_ ((flat_get prF 2 prF_len ps K 0 p1 hp1 (by omega)).trans rfl)
  obtain ⟨u3, e3, _, q3⟩ := hO4.at_ ((flat_get prF 2 prF_len ps K 1 p1 hp1 (by omega)).trans rfl)
  have q0 : OwI w4 w3.heap.size w4.heap.size u0 p0.x := q0
  have q1 : OwI w4 w3.heap.size w4.heap.size u1 p0.t := q1
  have q2 : OwI w4 w3.heap.size w4.heap.size u2 p1.x := q2
  have q3 : OwI w4 w3.heap.size w4.heap.size u3 p1.t := q3
  have hl0 := hps p0 (List.mem_of_getElem? hp0)
  have hl1 := hps p1 (List.mem_of_getElem? hp1)
  obtain ⟨A5, n5, c5, rfl, r5⟩ := q0.rv
  obtain ⟨A6, n6, c6, rfl, r6⟩ := q1.rv
  obtain ⟨A7, n7, c7, rfl, r7⟩ := q2.rv
  obtain ⟨A8, n8, c8, rfl, r8⟩ := q3.rv
  have k5 : n5 ≤ 7 := by rw [← r5.1]; exact hl0.1
  have k6 : n6 ≤ 7 := by rw [← r6.1]; exact hl0.2
  have k7 : n7 ≤ 7 := by rw [← r7.1]; exact hl1.1
  have k8 : n8 ≤ 7 := by rw [← r8.1]; exact hl1.2
  simp only [Nat.zero_mul, Nat.add_zero, Nat.zero_add] at e0 e1 e2 e3
  have hM4 := (HM3.out.only ho4 (fun q h1 h2 h3 => by omega)).rl
  obtain ⟨⟨xr, xl, xs⟩, hx⟩ : ∃ x, microG ds p0.x p0.t = x := ⟨_, rfl⟩
  obtain ⟨⟨yr, yl, ys⟩, hy⟩ : ∃ y, microG ds p1.x p1.t = y := ⟨_, rfl⟩
  obtain ⟨nx, hnx⟩ : ∃ n, xr.length = n := ⟨_, rfl⟩
  obtain ⟨ny, hny⟩ : ∃ n, yr.length = n := ⟨_, rfl⟩
  have HNX := hide hnx
  have HNY := hide hny
  have HX : Hid (SmG 8 36 xr) := hide (by have := microG_sm ds p0.x p0.t; rw [hx] at this; exact this)
  have HY : Hid (SmG 8 36 yr) := hide (by have := microG_sm ds p1.x p1.t; rw [hy] at this; exact this)
  have HC1 := hide (fun (W : World) (hW : Below w4.heap.size w4 W) => flatGn (spec_MicroGrads W (hM4.below (hW.mono (by omega))) (by have := hW.size; omega) (by omega) HDS.out.smO (r5.below hW) hW.size (by omega) (r6.below hW) hW.size (by omega)) hx hnx)
  have HC2 := hide (fun (W : World) (hW : Below w4.heap.size w4 W) => flatGn (spec_MicroGrads W (hM4.below (hW.mono (by omega))) (by have := hW.size; omega) (by omega) HDS.out.smO (r7.below hW) hW.size (by omega) (r8.below hW) hW.size (by omega)) hy hny)
  have HB4 := hide (HB3.out.trans (ho4.below (B := w.heap.size) (by omega) (fun q hq e => by omega)))
  have PR4 := hide ((ho4.block w.heap.size (by omega) (by omega)).trans PR3.out)
  have PS4 := hide ((ho4.block (w.heap.size + 1) (by omega) (by omega)).trans PS3.out)
  have pg4 := (ho4.block w2.heap.size (by omega) (by omega)).trans PG3.out
  replace g0 := blk_cell pg4 0
  simp at g0
  have hm1 : (n4 : Int) - 1 = (K : Int) := by omega
  have hwk : IntKind.i64.wrap ((n4 : Int) - 1) = (K : Int) := by rw [IntKind.wrap_i64]; omega
  have hwK : IntKind.i64.wrap (K : Int) = (K : Int) := by rw [IntKind.wrap_i64]; omega
  have h30 : (0 : Int) < (n4 : Int) := by omega
  have h31 : (0 : Int) ≤ (K : Int) := by omega
  have h33 : 0 < n4 := by omega
  have h34 : K < n4 := by omega
  have h35 : ¬ n4 = 0 := by omega
  have h32 : (K : Int) < (n4 : Int) := by omega
  have hn1 : w.heap.size ≠ g := by omega
  have hn2 : w.heap.size + 1 ≠ g := by omega
  have hn3 : w.heap.size ≠ w2.heap.size := by omega
  have hn4 : w.heap.size + 1 ≠ w2.heap.size := by omega
  clear hg hpl hp0 hp1 q0 q1 q2 q3 r5 r6 r7 r8 hM4 hx hy hnx hny hO4 ho4 hc4 hps hl0 hl1 pg4 hK PR PR1 PR2 PR3 PS PS1 PS2 PS3 HM3 HC3 HB0 HB1 HB2 HB3 PG3
  go_wp2_with fail
  have S4 : w4.drew.cell? ⟨w2.heap.size, 0, none⟩ = some (.slice A3 n3 c3) ∧ w4.drew.cell? ⟨g, 0, none⟩ = some (.slice A5 n5 c5) ∧ w4.drew.cell? ⟨g, 1, none⟩ = some (.slice A6 n6 c6) ∧ w4.drew.cell? ⟨g, K * 2, none⟩ = some (.slice A7 n7 c7) ∧ w4.drew.cell? ⟨g, K * 2 + 1, none⟩ = some (.slice A8 n8 c8) := ⟨g0, e0, e1, e2, e3⟩
  clear e0 e1 e2 e3 g0
  have gate1 : True := trivial
  have gate2 : True := trivial
  go_region_held3 (fun W => W.cell? ⟨w2.heap.size, 0, none⟩ = some (.slice A3 n3 c3) ∧ W.cell? ⟨g, 0, none⟩ = some (.slice A5 n5 c5) ∧ W.cell? ⟨g, 1, none⟩ = some (.slice A6 n6 c6) ∧ W.cell? ⟨g, K * 2, none⟩ = some (.slice A7 n7 c7) ∧ W.cell? ⟨g, K * 2 + 1, none⟩ = some (.slice A8 n8 c8))
    (first | with_reducible exact S4 | with_reducible exact S5 | with_reducible exact S6 | with_reducible exact S7 | with_reducible exact S8 | with_reducible exact S9 | with_reducible exact S10) (first
    | (clear gate1; go_at_call 16; refine (HC1.out w4.drew ((Below.refl _ _).drew)).mono ?_; rintro e w5 ⟨A9, c9, rfl, hO9, hb5⟩; have hb5 : Below w4.heap.size w4 w5 := undrew hb5; have hO9 : OwRows w5 w4.heap.size w5.heap.size (.slice A9 nx c9) nx (xr.flatMap rowF) := hO9; have hs5 := hb5.size; have HB5 := hide hb5; have HO9 := hide hO9; have S5 := keepB (w := w4.drew) (w' := w5) ⟨hb5.os, hb5.tape, hb5.output, hb5.size, hb5.block⟩ S4; clear hb5 hO9)
    | (clear gate2; go_at_call 16; refine (HC2.out w5 HB5.out).mono ?_; rintro e w6 ⟨A10, c10, rfl, hO10, hb6⟩; have hs6 := hb6.size; have HB6 := hide (HB5.out.trans (hb6.mono hs5)); have HO9' := hide (HO9.out.below hb6); have HO10 := hide hO10; have S6 := keepB hb6 S5; have S7 := keep5 (.slice A9 nx c9) (.int .i64 xl) (.bool xs) S6 hn3 hn1 hn1 hn1 hn1; have S8 := keep5 (.slice A10 ny c10) (.int .i64 yl) (.bool ys) S7 hn4 hn2 hn2 hn2 hn2; have S9 := keep5 (.slice A10 ny c10) (.int .i64 yl) (.bool ys) S6 hn4 hn2 hn2 hn2 hn2; have S10 := keep5 (.slice A9 nx c9) (.int .i64 xl) (.bool xs) S9 hn3 hn1 hn1 hn1 hn1; have pr6 := ((HB6.out).block w.heap.size (by omega)).trans PR4.out; have ps6 := ((HB6.out).block (w.heap.size + 1) (by omega)).trans PS4.out; have PR6 := hide pr6; have PS6 := hide ps6; have a0 := blk_cell pr6 0; have a1 := blk_cell pr6 1; have a2 := blk_cell pr6 2; have f0 := blk_free pr6 0; have f1 := blk_free pr6 1; have f2 := blk_free pr6 2; have b0 := blk_cell ps6 0; have b1 := blk_cell ps6 1; have b2 := blk_cell ps6 2; have d0 := blk_free ps6 0; have d1 := blk_free ps6 1; have d2 := blk_free ps6 2; simp at a0 a1 a2 b0 b1 b2; clear pr6 ps6 hb6 hO10))
  go_wp2_with fail
  refine bodyPost_ret (results_cell_cell (P := Try.prog) (d := _) (d' := _) rfl _ _ w.heap.size (w.heap.size + 1) 32 32 #[.slice A9 nx c9, .int .i64 xl, .bool xs] #[.slice A10 ny c10, .int .i64 yl, .bool ys] (0, 0) (0, 0) rfl rfl ?_ ?_ Try.underlying32 rfl rfl Try.underlying32 rfl rfl) rfl ?_
  · exact blk_far (blk_far (blk_far (blk_set (blk_set (blk_set PR6.out 0 _) 1 _) 2 _) (by omega) _) (by omega) _) (by omega) _
  · exact blk_set (blk_set (blk_set (blk_far (blk_far (blk_far PS6.out (by omega) _) (by omega) _) (by omega) _) 0 _) 1 _) 2 _
  · have hset : Only (fun b => b = w.heap.size ∨ b = w.heap.size + 1) w6 ((((((w6.setCell ⟨w.heap.size, 0, none⟩ (.slice A9 nx c9)).setCell ⟨w.heap.size, 1, none⟩ (.int .i64 xl)).setCell ⟨w.heap.size, 2, none⟩ (.bool xs)).setCell ⟨w.heap.size + 1, 0, none⟩ (.slice A10 ny c10)).setCell ⟨w.heap.size + 1, 1, none⟩ (.int .i64 yl)).setCell ⟨w.heap.size + 1, 2, none⟩ (.bool ys)) :=
      ((((((Only.refl (fun b => b = w.heap.size ∨ b = w.heap.size + 1) w6).set w.heap.size 0 (by omega) _).set w.heap.size 1 (by omega) _).set w.heap.size 2 (by omega) _).set (w.heap.size + 1) 0 (by omega) _).set (w.heap.size + 1) 1 (by omega) _).set (w.heap.size + 1) 2 (by omega) _
    have hs7 := hset.size
    have hB := HB4.out.trans ((HB6.out.mono HB4.out.size).trans (hset.below (B := w.heap.size) (by omega) (fun q hq h3 => by omega)))
    have r9 := ((HO9'.out.only hset (fun q h1 h2 h3 => by omega)).rl).more (show w5.heap.size ≤ _ from Nat.le_trans hs6 hs7)
    have r10 := ((HO10.out.only hset (fun q h1 h2 h3 => by omega)).rl).more hs7
    have hnx := HNX.out
    have hny := HNY.out
    subst hnx
    subst hny
    exact ⟨A9, c9, ⟨xr, xl, xs⟩, A10, c10, ⟨yr, yl, ys⟩, rfl, HX.out, HY.out, r9, r10, hB⟩
end Go.Proofs.Ytehfglfbnjdcoaa
