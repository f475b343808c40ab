/-
  Joined: RegX, DrawP, DrawQ.
-/
import Derived.OrdersHeld
import Derived.StillTail
import Derived.Deep.RegionHeld
import Derived.Test.YtehfglfbnjdcoaaDrawO
import Derived.Test.YtehfglfbnjdcoaaOpS
import Derived.Test.YtehfglfbnjdcoaaJGive
import Derived.Test.YtehfglfbnjdcoaaPush
import Derived.Test.YtehfglfbnjdcoaaMk
import Derived.Deep.DeepMust
import Derived.Deep.RegionHeld3
import Derived.Deep.RegionLaw
import Derived.Deep.Cut
namespace Go.Proofs.Ytehfglfbnjdcoaa
set_option maxRecDepth 100000
section
variable {P : Program} {ops : Array Oper} {Q : Exit → Act → World → Prop} {md : Region.Mode} {S : World → Prop} {n : Nat}

/-- The head's operations come up in whatever order, and S holds behind each; then the tail. -/
def AnyX (P : Program) (md : Region.Mode) (ops : Array Oper) (Q : Exit → Act → World → Prop) (S : World → Prop) (n : Nat) : Nat → Array Bool → Act → World → Prop
  | 0, listed, a, w => (∀ j ∈ Region.ready md ops listed, n ≤ j) ∧ wpAny P md ops Q (ops.size - n) listed a w
  | f + 1, listed, a, w => Region.ready md ops listed ≠ [] ∧ ∀ i ∈ Region.ready md ops listed, wpOp P ops Q i (fun a' w' => S w' ∧ AnyX P md ops Q S n f (listed.setIfInBounds i true) a' w') a w
theorem AnyX.any : ∀ (f : Nat) (listed : Array Bool) (a : Act) (w : World), AnyX P md ops Q S n f listed a w → wpAny P md ops Q (f + (ops.size - n)) listed a w
  | 0, listed, a, w, h => by rw [Nat.zero_add]; exact h.2
  | f + 1, listed, a, w, h => by
    rw [show f + 1 + (ops.size - n) = (f + (ops.size - n)) + 1 by omega]
    exact ⟨fun h0 => absurd h0 h.1, fun i hi => wpOp_mono (fun a' w' h' => AnyX.any f _ a' w' h'.2) (h.2 i hi)⟩
/-- .. where the head is closed under what it waits for -/
def GoX (P : Program) (md : Region.Mode) (ops : Array Oper) (Q : Exit → Act → World → Prop) (S : World → Prop) (n f : Nat) (listed : Array Bool) (a : Act) (w : World) : Prop :=
  HeadInv md ops n listed → AnyX P md ops Q S n f listed a w
theorem AnyX.first {i : Nat} {oi : Oper} {v : Value} (hi : ops[i]? = some oi) (hsel : ∀ (j : Nat) (o : Oper) cs b, ops[j]? = some o → o.op ≠ .select cs b)
    (hs : Region.sinkB md ops n = true) (hc : Region.chainB md ops n = true) (hn : n < ops.size) (hin : i < n)
    (hQ : ∀ c a w, Q (.panic c) (a.put oi.dst v) w → Q (.panic c) a w) :
    ∀ (f : Nat) (listed : Array Bool) (a : Act) (w : World), HeadInv md ops n listed →
      (∀ j oj, ops[j]? = some oj → j ≠ i → listed.getD j true = false → (∀ e ∈ oj.after, Region.binds md e = true → e.on ≠ i) → oi.apart ops oj = true) →
      i ∈ Region.ready md ops listed → YieldsIf P ops S oi v a → S w →
      AnyX P md ops Q S n f (listed.setIfInBounds i true) (a.put oi.dst v) w → AnyX P md ops Q S n (f + 1) listed a w := by
  intro f
  induction f with
  | zero =>
    intro listed a w inv hfree hr hy hS H
    have hun := (mem_ready.1 hr).1
    refine ⟨fun h => (by rw [h] at hr; cases hr), fun j hj => ?_⟩
    by_cases hji : j = i
    · subst hji; exact hy.wpOp hi hS ⟨hS, H⟩
    · have h1 := H.1 j (ready_mono hj hji)
      exact absurd hj (tail_waits hs hc hn inv _ i rfl hin hun j h1)
  | succ f ih =>
    intro listed a w inv hfree hr hy hS H
    have hun := (mem_ready.1 hr).1
    refine ⟨fun h => (by rw [h] at hr; cases hr), fun j hj => ?_⟩
    by_cases hji : j = i
    · subst hji; exact hy.wpOp hi hS ⟨hS, H⟩
    have hjn : j < n := by
      rcases Nat.lt_or_ge j n with h | h
      · exact h
      · exact absurd hj (tail_waits hs hc hn inv _ i rfl hin hun j h)
    obtain ⟨hjun, oj, hoj, hall⟩ := mem_ready.1 hj
    have hnot : ∀ e ∈ oj.after, Region.binds md e = true → e.on ≠ i := fun e he hb heq => by
      have h1 := hall e he hb
      rw [heq, getD_both hun] at h1
      cases h1
    have h2 := wpOp_putIf hoj (hfree j oj hoj hji hjun hnot) (fun cs b => hsel i oi cs b hi) (fun cs b => hsel j oj cs b hoj) hQ hy (H.2 j (ready_mono hj hji))
    have hfree2 : ∀ k ok, ops[k]? = some ok → k ≠ i → (listed.setIfInBounds j true).getD k true = false →
        (∀ e ∈ ok.after, Region.binds md e = true → e.on ≠ i) → oi.apart ops ok = true := fun k ok hk hki hkun hno => by
      refine hfree k ok hk hki ?_ hno
      by_cases hjk : j = k
      · subst hjk; exact hjun
      · rw [getD_set_ne true hjk] at hkun; exact hkun
    refine wpOp_mono (fun a' w' h3 => ?_) h2
    obtain ⟨hy3, hS3, h3⟩ := h3
    rw [Array.setIfInBounds_comm _ _ (Ne.symm hji)] at h3
    exact ⟨hS3, ih _ a' w' (inv.set hj hjn) hfree2 (ready_mono hr (Ne.symm hji)) hy3 hS3 h3⟩
end
section
variable {P : Program} {l : List Oper} {Q : Exit → Act → World → Prop} {md : Region.Mode} {S : World → Prop} {n : Nat}
theorem drop_at {α : Type} {l r : List α} {i : Nat} {x : α} (h : l.drop i = x :: r) : l.toArray[i]? = some x := by
  have := congrArg (fun s => s[0]?) h
  simpa using this
/-- An operation that yields wherever S holds is taken first. -/
theorem GoX.take {i f : Nat} {oi : Oper} {r : List Oper} {d : Option Tmp} {v : Value} {listed : Array Bool} {a : Act} {w : World} (hi : l.drop i = oi :: r) (hd : oi.dst = d)
    (hs : Region.noSelect l.toArray = true) (h1 : Region.sinkB md l.toArray n = true) (h2 : Region.chainB md l.toArray n = true) (h3 : decide (n < l.toArray.size) = true) (hin : decide (i < n) = true)
    (hf : Region.free md l.toArray listed i = true) (hr : (Region.ready md l.toArray listed).contains i = true)
    (hQ : ∀ c a w, Q (.panic c) (a.put d v) w → Q (.panic c) a w) (hy : YieldsIf P l.toArray S oi v a) (hS : S w)
    (h : GoX P md l.toArray Q S n f (listed.setIfInBounds i true) (a.put d v) w) : GoX P md l.toArray Q S n (f + 1) listed a w := fun inv => by
  subst hd
  have hin := of_decide_eq_true hin
  have hr : i ∈ Region.ready md l.toArray listed := by simpa using hr
  exact AnyX.first (drop_at hi) (Region.noSelect_spec hs) h1 h2 (of_decide_eq_true h3) hin hQ f listed a w inv (Region.free_spec (drop_at hi) hf) hr hy hS (h (inv.set hr hin))
/-- One operation alone may come up. -/
theorem GoX.step {i f : Nat} {o : Oper} {r : List Oper} {listed : Array Bool} {a : Act} {w : World} (hi : l.drop i = o :: r) (hr : Region.ready md l.toArray listed = [i]) (hin : decide (i < n) = true)
    (h : ∀ K' : Act → World → Prop, Shut (∀ a w, S w → (S w → GoX P md l.toArray Q S n f (listed.setIfInBounds i true) a w) → K' a w) → if Region.wanted o (yielded l.toArray a.tmps) = true then Oper.wp P o a w K' Q else K' (a.put o.dst undef) w) :
    GoX P md l.toArray Q S n (f + 1) listed a w := fun inv => by
  have hin := of_decide_eq_true hin
  have hm : i ∈ Region.ready md l.toArray listed := by rw [hr]; simp
  refine ⟨fun h0 => (by rw [hr] at h0; cases h0), fun j hj => ?_⟩
  have hji : j = i := by rw [hr] at hj; simpa using hj
  subst hji
  exact wpOp_step (drop_at hi) (fun K' hK => h K' (fun a w hS hW => hK a w ⟨hS, hW hS (inv.set hm hin)⟩))
/-- The head is through: the tail, in the order of the text. -/
theorem GoX.tail {t : List Oper} {listed : Array Bool} {a : Act} {w : World} (ht : l.drop n = t) (hl : decide (t.length = l.toArray.size - n) = true) (hB : Region.seqB md l.toArray t.length n listed = true)
    (h : wpList P l.toArray Q t a w) : GoX P md l.toArray Q S n 0 listed a w := fun _ => by
  refine ⟨seqB_ready hB, ?_⟩
  rw [← of_decide_eq_true hl]
  refine wpAny_of_seq t n listed a w (fun j => ?_) hB h
  rw [← ht]; simp
theorem wp_region_x {id : Nat} {a : Act} {w : World} (S : World → Prop) (n : Nat) (hm : P.follows .mixedOrders = true) (hn : decide (n ≤ l.toArray.size) = true)
    (h : GoX P .any l.toArray Q S n n (Array.replicate l.toArray.size false) a w.drew) : (Code.region id l.toArray true).wp P Q a w := by
  have hn := of_decide_eq_true hn
  refine wp_region_any hm ?_
  have hi : HeadInv .any l.toArray n (Array.replicate l.toArray.size false) := by
    refine ⟨by simp, fun j oj _ hl => ?_, fun t _ ht => ?_⟩
    · rw [getD_replicate_false] at hl; cases hl
    · simp at ht; simp [ht]
  have := AnyX.any n _ a _ (h hi)
  rw [show n + (l.toArray.size - n) = l.toArray.size by omega] at this
  exact this
end
end Go.Proofs.Ytehfglfbnjdcoaa
namespace Go.Proofs.Ytehfglfbnjdcoaa
open Go.RowKit
set_option maxRecDepth 100000
set_option maxRecDepth 100000

/-- the four fields of an operation -/
theorem FOs.op {e : TypeId} {w : World} {lo hi : Nat} {u : Value} {xs : List Int} (k i o : Int) (h : OI e w lo hi u xs) : FOs e w lo hi none [iv k, iv i, iv o, u] [.n k, .n i, .n o, .s xs] := by
  refine ⟨rfl, fun p v f hv hf => ?_, fun p q v z b hne hv hz hb => ?_, fun p v b _ _ => by simp⟩
  · match p with
    | 0 => simp at hv hf; subst hv; subst hf; rfl
    | 1 => simp at hv hf; subst hv; subst hf; rfl
    | 2 => simp at hv hf; subst hv; subst hf; rfl
    | 3 => simp at hv hf; subst hv; subst hf; exact h
    | p + 4 => simp at hv
  · have key : ∀ (p : Nat) v b, [iv k, iv i, iv o, u][p]? = some v → v.ownBlock = some b → p = 3 := fun p v b hv hb => by
      match p with
      | 0 => simp at hv; subst hv; simp [Value.ownBlock] at hb
      | 1 => simp at hv; subst hv; simp [Value.ownBlock] at hb
      | 2 => simp at hv; subst hv; simp [Value.ownBlock] at hb
      | 3 => rfl
      | p + 4 => simp at hv
    intro hc
    exact hne ((key p v b hv hb).trans (key q z b hz hc).symm)
/-- the first ones of an owned slice -/
theorem OL.cut {e T m : TypeId} {w : World} {lo hi n c : Nat} {A : Option Addr} {fs : List Fl} (h : OL e T m w lo hi (.slice A n c) n fs) {k : Nat} (hk : k ≤ n) (hn : 0 < n) : OL e T m w lo hi (.slice A k c) k (fs.take (k * m)) := by
  obtain ⟨vs, ⟨hl, hc⟩, hhi, hf⟩ := h
  have hkm : k * m ≤ n * m := Nat.mul_le_mul_right m hk
  rcases hc with ⟨_, rfl⟩ | ⟨g, cap, cur, hv, hg, hh, hn', hm', hs, ht⟩
  · omega
  simp only [Value.slice.injEq] at hv
  obtain ⟨rfl, -, rfl⟩ := hv
  have hin : ∀ {α : Type} (l : List α) (p : Nat) (x : α), (l.take (k * m))[p]? = some x → l[p]? = some x := fun l p x hx => by
    rw [List.getElem?_take] at hx
    split at hx
    · exact hx
    · cases hx
  refine ⟨vs.take (k * m), ⟨by rw [List.length_take]; omega, .inr ⟨g, c, cur, rfl, hg, hh, by omega, hm', hs, by rw [← ht, List.take_take]; congr 1; omega⟩⟩, hhi, ⟨by rw [List.length_take, List.length_take, hf.len], fun p v f hv hff => hf.each p v f (hin _ _ _ hv) (hin _ _ _ hff), fun p q v u b hne hv hu => hf.apart p q v u b hne (hin _ _ _ hv) (hin _ _ _ hu), fun p v b hv => hf.off p v b (hin _ _ _ hv)⟩⟩
theorem flat_take {α : Type} (g : α → List Fl) (m : Nat) (hm : ∀ a, (g a).length = m) : ∀ (ds : List α) (k : Nat), (ds.flatMap g).take (k * m) = (ds.take k).flatMap g
  | [], k => by simp
  | d :: ds, 0 => by simp
  | d :: ds, k + 1 => by
    rw [List.take_succ_cons, List.flatMap_cons, List.flatMap_cons, Nat.succ_mul, Nat.add_comm, List.take_append, hm, List.take_of_length_le (by rw [hm]; omega), show m + k * m - m = k * m by omega, flat_take g m hm ds k]
theorem flat_one {α : Type} (g : α → List Fl) (ds : List α) (d : α) : (ds ++ [d]).flatMap g = ds.flatMap g ++ g d := by simp
def opL (ds : List OpD) : Prop := ∀ d ∈ ds, d.p.length ≤ 37
theorem opL.smO {ds : List OpD} (h : opL ds) : SmO ds := fun j d hd => by have := h d (List.mem_of_getElem? hd); omega
theorem opL.nil : opL [] := fun d hd => by simp at hd
theorem opL.snoc {ds : List OpD} {d : OpD} (h : opL ds) (hd : d.p.length ≤ 37) : opL (ds ++ [d]) := fun x hx => by
  rcases List.mem_append.1 hx with hx | hx
  · exact h x hx
  · obtain rfl : x = d := by simpa using hx
    exact hd
theorem opL.take {ds : List OpD} (h : opL ds) (k : Nat) : opL (ds.take k) := fun x hx => h x (List.mem_of_mem_take hx)
theorem opL.set {ds : List OpD} {d : OpD} (h : opL ds) (hd : d.p.length ≤ 37) (k : Nat) : opL (ds.set k d) := fun x hx => by
  rcases List.mem_or_eq_of_mem_set hx with hx | rfl
  · exact h x hx
  · exact hd
/-- a record of an owned slice: its cells, and what it is when they are laid anew -/
theorem OL.opCells {w : World} {lo hi n c g : Nat} {ds : List OpD} (h : OwOps w lo hi (.slice (some ⟨g, 0, none⟩) n c) n (ds.flatMap opF)) {X : Nat} (hX : X < ds.length) :
    (∃ u, w.cell? ⟨g, X * 4, none⟩ = some u) ∧ (∃ u, w.cell? ⟨g, X * 4 + 1, none⟩ = some u) ∧ (∃ u, w.cell? ⟨g, X * 4 + 2, none⟩ = some u) ∧ (∃ u, w.cell? ⟨g, X * 4 + 3, none⟩ = some u) ∧
    w.frozen? ⟨g, X * 4, none⟩ = false ∧ w.frozen? ⟨g, X * 4 + 1, none⟩ = false ∧ w.frozen? ⟨g, X * 4 + 2, none⟩ = false ∧ w.frozen? ⟨g, X * 4 + 3, none⟩ = false := by
  have hd : ds[X]? = some ds[X] := List.getElem?_eq_getElem hX
  have q := fun i hi => flat_get opF 4 opF_len ds X i _ hd hi
  obtain ⟨u0, q0, f0, _⟩ := h.at_ ((q 0 (by omega)).trans rfl)
  obtain ⟨u1, q1, f1, _⟩ := h.at_ ((q 1 (by omega)).trans rfl)
  obtain ⟨u2, q2, f2, _⟩ := h.at_ ((q 2 (by omega)).trans rfl)
  obtain ⟨u3, q3, f3, _⟩ := h.at_ ((q 3 (by omega)).trans rfl)
  exact ⟨⟨u0, q0⟩, ⟨u1, q1⟩, ⟨u2, q2⟩, ⟨u3, q3⟩, f0, f1, f2, f3⟩
theorem OL.putOp {w : World} {lo mid hi n c g : Nat} {ds : List OpD} (h : OwOps w lo mid (.slice (some ⟨g, 0, none⟩) n c) n (ds.flatMap opF)) {X : Nat} (hX : X < ds.length) {k i o : Int} {u : Value} {xs : List Int} (hu : OwI w mid hi u xs) (hm : mid ≤ hi) :
    OwOps ((((w.setCell ⟨g, X * 4, none⟩ (.int .i64 k)).setCell ⟨g, X * 4 + 1, none⟩ (.int .i64 i)).setCell ⟨g, X * 4 + 2, none⟩ (.int .i64 o)).setCell ⟨g, X * 4 + 3, none⟩ u) lo hi (.slice (some ⟨g, 0, none⟩) n c) n ((ds.set X ⟨k, i, o, xs⟩).flatMap opF) := by
  have hg := (h.lt g rfl).2.1
  have hfl := flat_len opF 4 opF_len ds
  have p0 := h.put (p := X * 4) (f := .n k) (u := .int .i64 k) (hi := mid) (by omega) rfl rfl (Nat.le_refl _)
  have p1 := p0.put (p := X * 4 + 1) (f := .n i) (u := .int .i64 i) (hi := mid) (by rw [List.length_set]; omega) rfl rfl (Nat.le_refl _)
  have p2 := p1.put (p := X * 4 + 2) (f := .n o) (u := .int .i64 o) (hi := mid) (by rw [List.length_set, List.length_set]; omega) rfl rfl (Nat.le_refl _)
  have on3 : Only (fun b => b = g) w (((w.setCell ⟨g, X * 4, none⟩ (.int .i64 k)).setCell ⟨g, X * 4 + 1, none⟩ (.int .i64 i)).setCell ⟨g, X * 4 + 2, none⟩ (.int .i64 o)) :=
    (((Only.refl (fun b => b = g) w).set g (X * 4) rfl _).set g (X * 4 + 1) rfl _).set g (X * 4 + 2) rfl _
  have p3 := p2.put (p := X * 4 + 3) (f := .s xs) (u := u) (hi := hi) (by rw [List.length_set, List.length_set, List.length_set]; omega) rfl (hu.only on3 fun q h1 h2 h3 => by have h4 : q = g := h3; omega) hm
  have e4 := putAt_flat opF 4 opF_len ds X ⟨k, i, o, xs⟩ hX
  rw [← e4]
  exact p3
/-- what is owned does not lie in a model's box -/
theorem OL.onlyM {w w' : World} {lo hi n M : Nat} {v : Value} {fs : List Fl} {cs : Array Value} {fr : Nat × Nat} (h : OwOps w lo hi v n fs) (hM : w.heap[M]? = some (.cells cs 36 fr)) (ho : Only (fun b => b = M) w w') : OwOps w' lo hi v n fs := by
  obtain ⟨vs, ⟨hl, hc⟩, hhi, hf⟩ := h
  refine ⟨vs, ⟨hl, ?_⟩, hhi, ⟨hf.len, fun q u f hu hff => ?_, hf.apart, hf.off⟩⟩
  · rcases hc with hc | ⟨g, cap, cur, rfl, hg, hh, r⟩
    · exact .inl hc
    · have hlt : g < w.heap.size := (Array.getElem?_eq_some_iff.1 hh).1
      refine .inr ⟨g, cap, cur, rfl, hg, (ho.block g hlt (fun hb => ?_)).trans hh, r⟩
      have hb' : g = M := hb
      rw [hb', hM] at hh
      simp at hh
  · have he := hf.each q u f hu hff
    refine he.only ho (fun k hk hb => ?_)
    have hb' : k = M := hb
    subst hb'
    cases f with
    | n x => obtain rfl : u = .int .i64 x := he; simp [Value.ownBlock] at hk
    | b x => obtain rfl : u = .bool x := he; simp [Value.ownBlock] at hk
    | s xs =>
      have he : OwI w lo hi u xs := he
      rcases he.1.2 with ⟨rfl, _⟩ | ⟨b, cap, cur, rfl, _, hh, _⟩
      · simp [Value.ownBlock] at hk
      · simp [Value.ownBlock] at hk
        subst hk
        rw [hh] at hM
        simp at hM
theorem OL.neM {w : World} {lo hi n M g : Nat} {v : Value} {fs : List Fl} {cs : Array Value} {fr : Nat × Nat} (h : OwOps w lo hi v n fs) (hM : w.heap[M]? = some (.cells cs 36 fr)) (hg : v.ownBlock = some g) : g ≠ M := by
  rintro rfl
  obtain ⟨vs, ⟨hl, hc⟩, hhi, hf⟩ := h
  rcases hc with ⟨rfl, _⟩ | ⟨b, cap, cur, rfl, _, hh, _⟩
  · simp [Value.ownBlock] at hg
  · simp [Value.ownBlock] at hg
    subst hg
    rw [hh] at hM
    simp at hM
/-- how many lie in the model in a box -/
def mlen (w : World) (M : Nat) : Nat := match w.cell? ⟨M, 0, none⟩ with
  | some (.slice _ n _) => n
  | _ => 0
theorem mlen_of {w : World} {M n c : Nat} {A : Option Addr} {t : TypeId} (h : w.heap[M]? = some (.cells #[.slice A n c] t (0, 0))) : mlen w M = n := by
  have := blk_cell h 0
  simp at this
  rw [mlen, this]
/-- a model is drawn, into new memory: from n0 to n1 operations -/
def DrawnMd (B : Nat) (A : Option Addr) (n cap a : Nat) (w : World) (n0 n1 : Nat) (e : Ending) (w' : World) : Prop :=
  ∃ (A' : Option Addr) (n' c' : Nat) (ds : List OpD), e = .returned (Modv A' n' c') ∧ n0 ≤ n' ∧ n' ≤ n1 ∧ opL ds ∧ OwOps w' w.heap.size w'.heap.size (.slice A' n' c') n' (ds.flatMap opF) ∧ Only (fun b => b = a) w w' ∧ Cur B A n cap a w'
section
variable {B n cap a : Nat} {A : Option Addr}
set_option maxHeartbeats 2000000 in
theorem spec_l6Model (w : World) (h : Cur B A n cap a w) : Calls Try.prog 126 #[.pointer (some ⟨a, 0, none⟩)] w (DrawnMd B A n cap a w 1 6) := by
  have hlt := h.lt
  have hBa := h.base
  obtain ⟨w1, hw1⟩ : ∃ W, W = w.alloc (.cells #[.slice none 0 0] 36) := ⟨_, rfl⟩
  obtain ⟨w2, hw2⟩ : ∃ W, W = w1.alloc (.cells #[.slice none 0 0] 36) := ⟨_, rfl⟩
  have s1 : w1.heap.size = w.heap.size + 1 := by rw [hw1]; simp
  have s2 : w2.heap.size = w.heap.size + 1 + 1 := by rw [hw2]; simp [s1]
  have hb2 : Below w.heap.size w w2 := hw2 ▸ (hw1 ▸ (Below.refl _ _).alloc (Nat.le_refl _) _ : Below w.heap.size w w1).alloc (by omega) _
  have PR := hide (show w2.heap[w.heap.size]? = some (.cells #[.slice none 0 0] 36 (0, 0)) from by
    rw [hw2, Below.heap_alloc _ _ _ (by omega), hw1]; exact heap_alloc_new _ _)
  have PM := hide (show w2.heap[w.heap.size + 1]? = some (.cells #[.slice none 0 0] 36 (0, 0)) from by
    rw [← s1, hw2]; exact heap_alloc_new _ _)
  have HW1 := hide hw1
  have HW2 := hide hw2
  have hs2 : w.heap.size + 2 ≤ w2.heap.size := by omega
  have HB := hide (spec_l1Below 3 w2 (h.below hb2) (by omega) (by omega))
  have HO2 := hide (show Only (fun b => b = a) w w2 from Only.of_below hb2)
  clear hw1 hw2 s1 s2 hb2 h
  go_enter Try.func126, Try.ntmps126
  go_wp2_with fail
  rw [← HW1.out, ← HW2.out]
  refine HB.out.mono ?_
  rintro e w3 ⟨x, rfl, hx0, hx1, ho3, hc3⟩
  have hs3 := ho3.size
  have HO3 := hide (HO2.out.trans ho3)
  have PR3 := hide ((ho3.block w.heap.size (by omega) (by omega)).trans PR.out)
  have PM3 := hide ((ho3.block (w.heap.size + 1) (by omega) (by omega)).trans PM.out)
  clear ho3 HB
  go_wp2_with fail
  refine (spec_l1Below 6 w3 hc3 (by omega) (by omega)).mono ?_
  rintro e w4 ⟨y, rfl, hy0, hy1, ho4, hc4⟩
  have hs4 := ho4.size
  obtain ⟨Y, rfl⟩ : ∃ Y : Nat, y = (Y : Int) := ⟨y.toNat, by omega⟩
  have HO4 := hide (HO3.out.trans ho4)
  have PR4 := hide ((ho4.block w.heap.size (by omega) (by omega)).trans PR3.out)
  have PM4 := hide ((ho4.block (w.heap.size + 1) (by omega) (by omega)).trans PM3.out)
  have HC4 := hide hc4
  have hY5 : Y ≤ 5 := by omega
  clear ho4 hc4 hc3 hy0 hy1
  go_wp2_with fail
  go_loopw [4, 5] (fun iv0 qv wr => ∃ (i : Int) (q k : Nat) (A' : Option Addr) (c' : Nat) (ds : List OpD), iv0 = .int .i64 i ∧ 1 ≤ i ∧ i ≤ 3 ∧ qv = .int .i64 (q : Int) ∧ q + k = 1 + Y ∧ opL ds ∧
      wr.heap[w.heap.size + 1]? = some (.cells #[.slice A' k c'] 36 (0, 0)) ∧ OwOps wr (w.heap.size + 2) wr.heap.size (.slice A' k c') k (ds.flatMap opF) ∧ wr.heap[w.heap.size]? = some (.cells #[.slice none 0 0] 36 (0, 0)) ∧ w.heap.size + 2 ≤ wr.heap.size ∧ Only (fun b => b = a) w wr ∧ Cur B A n cap a wr)
    (fun _ q _ => (intOf q).toNat)
  case atStart => exact ⟨1 + x, 1 + Y, 0, none, 0, [], rfl, by omega, by omega, by simp, by omega, opL.nil, PM4.out, OL.nil _ _ _ _ _ _, PR4.out, by omega, HO4.out, HC4.out⟩
  case round =>
    obtain ⟨i, q, k, A1, c1, ds, rfl, hi1, hi3, rfl, hqk, hds, pm, hown, pr, hsz, ho, hc⟩ := hrel
    clear HO2 HO3 HO4 PR PR3 PR4 PM PM3 PM4 HC4 hs2 hs3 hs4
    by_cases hq : 0 < q
    · have hq' : (0 : Int) < (q : Int) := by omega
      have HDS := hide hds
      have HOWN := hide hown
      have PM := hide pm
      have PR := hide pr
      have HO := hide ho
      clear hds hown pm pr ho
      go_wp2_with fail
      refine (spec_l5Op i wr hc hi1 hi3).mono ?_
      rintro e w5 ⟨k', o, A3, n3, c3, xs, rfl, hk1, hk5, ho1', ho3', hxl, hO3, hon3, hc5⟩
      have hs5 := hon3.size
      have PM5 := hide ((hon3.block (w.heap.size + 1) (by omega) (by omega)).trans PM.out)
      have PR5 := hide ((hon3.block w.heap.size (by omega) (by omega)).trans PR.out)
      have HOW5 := hide (HOWN.out.only hon3 (fun q h1 h2 h3 => by omega))
      have HO5 := hide (HO.out.trans hon3)
      obtain ⟨w6, hw6⟩ : ∃ W, W = w5.alloc (.cells #[.int .i64 k', .int .i64 i, .int .i64 o, .slice A3 n3 c3] 52) := ⟨_, rfl⟩
      have hb6 : Below w5.heap.size w5 w6 := hw6 ▸ (Below.refl _ _).alloc (Nat.le_refl _) _
      have s6 : w6.heap.size = w5.heap.size + 1 := by rw [hw6]; simp
      have pg6 : w6.heap[w5.heap.size]? = some (.cells #[.int .i64 k', .int .i64 i, .int .i64 o, .slice A3 n3 c3] 52 (0, 0)) := by rw [hw6]; exact heap_alloc_new _ _
      have pm6 := (hb6.block (w.heap.size + 1) (by omega)).trans PM5.out
      have PM6 := hide pm6
      have PR6 := hide ((hb6.block w.heap.size (by omega)).trans PR5.out)
      have PG6 := hide pg6
      have HOW6 := hide (HOW5.out.below hb6)
      have HU6 := hide (FOs.op k' i o ((hO3.below hb6).more (Nat.le_refl _) (show w5.heap.size ≤ w6.heap.size by omega)))
      have HO6 := hide (HO5.out.trans (Only.of_below hb6))
      have HC6 := hide (hc5.below hb6)
      have HW6 := hide hw6
      have hs6 : w5.heap.size < w6.heap.size := by omega
      have m0 := blk_cell pm6 0
      have g0 := blk_cell pg6 0
      have g1 := blk_cell pg6 1
      have g2 := blk_cell pg6 2
      have g3 := blk_cell pg6 3
      simp at m0 g0 g1 g2 g3
      clear hw6 hb6 s6 pg6 pm6 hon3 hO3 hc hc5
      go_upto_region 7 with fail
      rw [← HW6.out]
      have gate0 : True := trivial
      go_wp2_with (first
        | (at_builtin; clear gate0; go_must (refine wpList_pushL w6 [iv k', iv i, iv o, .slice A3 n3 c3] [.n k', .n i, .n o, .s xs] rfl (.tmp 22) (.tmp 24) _ rfl 3 52 4 48 _ Try.underlying34 op_info rfl (by omega) (by omega) rfl HOW6.out HU6.out rfl rfl (by omega) (by omega) (by omega) ?_); intro A7 c7 w7 hO7 hon7 _; have hne : ∀ q, (Value.slice A1 k c1).ownBlock = some q → w.heap.size + 2 ≤ q ∧ q < wr.heap.size := (fun q hq => ⟨(HOWN.out.lt q hq).1, (HOWN.out.lt q hq).2.1⟩); have hs7 := hon7.size; have pm7 := (hon7.block (w.heap.size + 1) (by omega) (fun hc => by have := hne _ hc; omega)).trans PM6.out; have pg7 := (hon7.block w5.heap.size (by omega) (fun hc => by have := hne _ hc; omega)).trans PG6.out; have PR7 := hide ((hon7.block w.heap.size (by omega) (fun hc => by have := hne _ hc; omega)).trans PR6.out); have PM7 := hide pm7; have HO7 := hide hO7; have HON7 := hide hon7; have HNE := hide hne; replace m0 := blk_cell pm7 0; have mf := blk_free pm7 0; have gg := blk_far pg7 (b := w.heap.size + 1) (j := 0) (by omega) (.slice A7 (k + 1) c7); replace g0 := blk_cell gg 0; replace g1 := blk_cell gg 1; replace g2 := blk_cell gg 2; replace g3 := blk_cell gg 3; simp at m0 g0 g1 g2 g3; clear pm7 pg7 hO7 hon7 hne gg))
      go_roundw
      case rel =>
        have hset : Only (fun b => b = w.heap.size + 1) w7 (w7.setCell ⟨w.heap.size + 1, 0, none⟩ (.slice A7 (k + 1) c7)) := (Only.refl (fun b => b = w.heap.size + 1) w7).set (w.heap.size + 1) 0 rfl _
        have hH : Only (fun b => w.heap.size ≤ b) w6 (w7.setCell ⟨w.heap.size + 1, 0, none⟩ (.slice A7 (k + 1) c7)) := (HON7.out.mono (fun q hq => by have := HNE.out q hq; omega)).trans (hset.mono (fun q hq => by omega))
        refine ⟨o, q - 1, k + 1, A7, c7, ds ++ [⟨k', i, o, xs⟩], rfl, ho1', ho3', ?_, by omega, HDS.out.snoc (by show xs.length ≤ 37; omega), ?_, ?_, ?_, ?_, only_newO HO6.out hH (Nat.le_refl _), HC6.out.only hH (fun q hq => by omega)⟩
        · rw [show ((q - 1 : Nat) : Int) = (q : Int) - 1 by omega]
        · exact blk_set PM7.out 0 _
        · rw [flat_one]
          exact (HO7.out.only hset (fun q h1 h2 h3 => by omega)).more (Nat.le_refl _) (by simp [World.setCell])
        · exact blk_far PR7.out (by omega) _
        · have := hset.size; omega
      case measure => simp [intOf]; omega
    · obtain rfl : q = 0 := by omega
      have m0 := blk_cell pm 0
      have r0 := blk_cell pr 0
      have rf := blk_free pr 0
      simp at m0 r0
      have HDS := hide hds
      have HOWN := hide hown
      have PR := hide pr
      have HO := hide ho
      clear hds hown pm pr ho
      go_wp2_with fail
      refine bodyPost_ret (results_cell_row (P := Try.prog) (d := _) rfl _ _ w.heap.size 36 #[.slice A1 k c1] (0, 0) rfl ?_ Try.underlying36 rfl rfl) rfl ?_
      · exact blk_set PR.out 0 _
      · have hset : Only (fun b => b = w.heap.size) wr (wr.setCell ⟨w.heap.size, 0, none⟩ (.slice A1 k c1)) := (Only.refl (fun b => b = w.heap.size) wr).set w.heap.size 0 rfl _
        exact ⟨A1, k, c1, ds, rfl, by omega, by omega, HDS.out, (HOWN.out.only hset (fun q h1 h2 h3 => by omega)).more (by omega) (by simp [World.setCell]), only_newO HO.out (hset.mono (fun q hq => by omega)) (Nat.le_refl _), hc.only hset (fun q hq => by omega)⟩
end
end Go.Proofs.Ytehfglfbnjdcoaa
namespace Go.Proofs.Ytehfglfbnjdcoaa
open Go.RowKit
set_option maxRecDepth 100000
section
variable {B n cap a : Nat} {A : Option Addr}
set_option maxHeartbeats 4000000 in
theorem spec_l6Any (w : World) (h : Cur B A n cap a w) : Calls Try.prog 118 #[.pointer (some ⟨a, 0, none⟩)] w (DrawnMd B A n cap a w 0 9) := by
  have hlt := h.lt
  have hBa := h.base
  obtain ⟨w0, hw0⟩ : ∃ W, W = w.alloc (.cells #[.slice none 0 0] 36) := ⟨_, rfl⟩
  have hb0 : Below w.heap.size w w0 := hw0 ▸ (Below.refl _ _).alloc (Nat.le_refl _) _
  have s0 : w.heap.size + 1 ≤ w0.heap.size := by rw [hw0]; simp
  have PR := hide (show w0.heap[w.heap.size]? = some (.cells #[.slice none 0 0] 36 (0, 0)) from by rw [hw0]; exact heap_alloc_new _ _)
  have HW0 := hide hw0
  have HB := hide (spec_l6Model w0 (h.below hb0))
  have HO0 := hide (show Only (fun b => b = a) w w0 from Only.of_below hb0)
  clear hw0 hb0 h
  go_enter Try.func118, Try.ntmps118
  go_wp2_with fail
  rw [← HW0.out]
  refine HB.out.mono ?_
  rintro e w1 ⟨A1, n1, c1, ds, rfl, hn1, hn6, hds, hO1, ho1, hc1⟩
  have hs1 := ho1.size
  obtain ⟨g, rfl⟩ := hO1.addr (by omega)
  have hg := hO1.lt g rfl
  have hg0 := hg.1
  have hg1 := hg.2.1
  have hcp : n1 ≤ c1 := hO1.rl.2.1
  have HLN := hide (hO1.rl.row opF_len (by omega))
  have HDS := hide hds
  have HO1 := hide (HO0.out.trans ho1)
  have PR1 := hide ((ho1.block w.heap.size (by omega) (by omega)).trans PR.out)
  obtain ⟨w2, hw2⟩ : ∃ W, W = w1.alloc (.cells #[.slice (some ⟨g, 0, none⟩) n1 c1] 36) := ⟨_, rfl⟩
  have hb2 : Below w1.heap.size w1 w2 := hw2 ▸ (Below.refl _ _).alloc (Nat.le_refl _) _
  have pm2 : w2.heap[w1.heap.size]? = some (.cells #[.slice (some ⟨g, 0, none⟩) n1 c1] 36 (0, 0)) := by rw [hw2]; exact heap_alloc_new _ _
  have hl2 : w1.heap.size < w2.heap.size := by rw [hw2]; simp
  have PM2 := hide pm2
  have PR2 := hide ((hb2.block w.heap.size (by omega)).trans PR1.out)
  have HOW2 := hide (hO1.below hb2)
  have HO2 := hide (HO1.out.trans (Only.of_below hb2))
  have hc2 := hc1.below hb2
  have HW2 := hide hw2
  have hn1' : (0 : Int) < (n1 : Int) := by omega
  have m0 := blk_cell pm2 0
  simp at m0
  clear hw2 hb2 pm2 hO1 hc1 ho1 HB hds hg
  go_wp2_with fail
  rw [← HW2.out]
  refine (spec_l1Below (n1 : Int) w2 hc2 (by omega) (by omega)).mono ?_
  rintro e w3 ⟨x, rfl, hx0, hx1, ho3, hc3⟩
  obtain ⟨X, rfl⟩ : ∃ X : Nat, x = (X : Int) := ⟨x.toNat, by omega⟩
  have hs3 := ho3.size
  have HO3 := hide (HO2.out.trans ho3)
  have PR3 := hide ((ho3.block w.heap.size (by omega) (by omega)).trans PR2.out)
  have PM3 := hide ((ho3.block w1.heap.size (by omega) (by omega)).trans PM2.out)
  have HOW3 := hide (HOW2.out.only ho3 (fun q h1 h2 h3 => by omega))
  clear ho3 hc2 m0
  go_wp2_with fail
  refine (spec_l1Below 16 w3 hc3 (by omega) (by omega)).mono ?_
  rintro e w4 ⟨z, rfl, hz0, hz1, ho4, hc4⟩
  have hs4 := ho4.size
  have HO4 := hide (HO3.out.trans ho4)
  have pr4 := (ho4.block w.heap.size (by omega) (by omega)).trans PR3.out
  have pm4 := (ho4.block w1.heap.size (by omega) (by omega)).trans PM3.out
  have PR4 := hide pr4
  have PM4 := hide pm4
  have HOW4 := hide (HOW3.out.only ho4 (fun q h1 h2 h3 => by omega))
  have HC4 := hide hc4
  have m0 := blk_cell pm4 0
  have mf := blk_free pm4 0
  have r0 := blk_cell pr4 0
  have rf := blk_free pr4 0
  simp at m0 r0
  have hX : X < n1 := by omega
  clear ho4 hc3 hc4 pr4 pm4 PR PR1 PR2 PR3 PM2 PM3 HO0 HO1 HO2 HO3 HOW2 HOW3 hx0 hx1
  by_cases z0 : z = 0
  · subst z0
    have hX' : (X : Int) < (n1 : Int) := by omega
    have hX0 : (0 : Int) ≤ (X : Int) := by omega
    go_wp2_with fail
    have gate0 : True := trivial
    go_region_held3 (fun W => W.cell? ⟨w1.heap.size, 0, none⟩ = some (.slice (some ⟨g, 0, none⟩) n1 c1)) (first | exact m0 | exact gk0) (first
      | (clear gate0; go_at_call 120; refine (spec_l5Any w4.drew HC4.out.drewO).mono ?_; rintro e w5 ⟨k, i, o, A3, n3, c3, xs, rfl, hk0, hk1, hi0, hi7, ho1', ho3', hxl, hO5, ho5, hc5⟩; have ho5 : Only (fun b => b = a) w4 w5 := ho5.undrewO; have hO5 : OwI w5 w4.heap.size w5.heap.size (.slice A3 n3 c3) xs := hO5; have hs5 := ho5.size; have HOW5 := hide ((HOW4.out.only ho5 (fun q h1 h2 h3 => by omega)).more (Nat.le_refl _) (show w1.heap.size ≤ w4.heap.size by omega)); have pm5 := (ho5.block w1.heap.size (by omega) (by omega)).trans PM4.out; have pr5 := (ho5.block w.heap.size (by omega) (by omega)).trans PR4.out; obtain ⟨⟨u0, q0⟩, ⟨u1, q1⟩, ⟨u2, q2⟩, ⟨u3, q3⟩, f0, f1, f2, f3⟩ := HOW5.out.opCells (X := X) (by rw [HLN.out]; exact hX); have gk := blk_far (blk_far (blk_far (blk_far pm5 (b := g) (j := X * 4) (by omega) (.int .i64 k)) (b := g) (j := X * 4 + 1) (by omega) (.int .i64 i)) (b := g) (j := X * 4 + 2) (by omega) (.int .i64 o)) (b := g) (j := X * 4 + 3) (by omega) (.slice A3 n3 c3); have gk0 := blk_cell gk 0; replace m0 := blk_cell pm5 0; simp at gk0 m0; have GK := hide gk; have PR5 := hide pr5; have HO5 := hide hO5; have HOn5 := hide ho5; have HC5 := hide hc5; clear gk pm5 pr5 hO5 ho5 hc5))
    have pr6 := blk_far (blk_far (blk_far (blk_far PR5.out (b := g) (j := X * 4) (by omega) (.int .i64 k)) (b := g) (j := X * 4 + 1) (by omega) (.int .i64 i)) (b := g) (j := X * 4 + 2) (by omega) (.int .i64 o)) (b := g) (j := X * 4 + 3) (by omega) (.slice A3 n3 c3)
    have hP := HOW5.out.putOp (X := X) (by rw [HLN.out]; exact hX) (k := k) (i := i) (o := o) HO5.out hs5
    have hon : Only (fun b => b = g) w5 ((((w5.setCell ⟨g, X * 4, none⟩ (.int .i64 k)).setCell ⟨g, X * 4 + 1, none⟩ (.int .i64 i)).setCell ⟨g, X * 4 + 2, none⟩ (.int .i64 o)).setCell ⟨g, X * 4 + 3, none⟩ (.slice A3 n3 c3)) := (((((Only.refl (fun b => b = g) w5).set g (X * 4) rfl (.int .i64 k)).set g (X * 4 + 1) rfl (.int .i64 i)).set g (X * 4 + 2) rfl (.int .i64 o)).set g (X * 4 + 3) rfl (.slice A3 n3 c3))
    have pm6 := GK.out
    obtain ⟨w6, hw6⟩ : ∃ W, W = ((((w5.setCell ⟨g, X * 4, none⟩ (.int .i64 k)).setCell ⟨g, X * 4 + 1, none⟩ (.int .i64 i)).setCell ⟨g, X * 4 + 2, none⟩ (.int .i64 o)).setCell ⟨g, X * 4 + 3, none⟩ (.slice A3 n3 c3)) := ⟨_, rfl⟩
    rw [← hw6] at pr6 hP hon pm6 ⊢
    have HW6 := hide hw6
    have hs6 := hon.size
    have HON := hide hon
    have HP := hide hP
    have PR6 := hide pr6
    clear hw6 hP hon q0 q1 q2 q3 f0 f1 f2 f3 m0 gk0 mf r0 rf
    have m0 := blk_cell pm6 0
    have r0 := blk_cell pr6 0
    have rf := blk_free pr6 0
    simp at m0 r0
    clear pm6 pr6
    go_wp2_with fail
    refine bodyPost_ret (results_cell_row (P := Try.prog) (d := _) rfl _ _ w.heap.size 36 #[.slice (some ⟨g, 0, none⟩) n1 c1] (0, 0) rfl ?_ Try.underlying36 rfl rfl) rfl ?_
    · exact blk_set PR6.out 0 _
    · have hset : Only (fun b => b = w.heap.size) w6 (w6.setCell ⟨w.heap.size, 0, none⟩ (.slice (some ⟨g, 0, none⟩) n1 c1)) := (Only.refl (fun b => b = w.heap.size) w6).set w.heap.size 0 rfl _
      have hH : Only (fun b => w.heap.size ≤ b) w5 (w6.setCell ⟨w.heap.size, 0, none⟩ (.slice (some ⟨g, 0, none⟩) n1 c1)) := (HON.out.mono (fun q hq => by omega)).trans (hset.mono (fun q hq => by omega))
      have hs7 := hset.size
      exact ⟨some ⟨g, 0, none⟩, n1, c1, ds.set X ⟨k, i, o, xs⟩, rfl, by omega, by omega, HDS.out.set (by show xs.length ≤ 37; omega) X, (HP.out.only hset (fun q h1 h2 h3 => by omega)).more (by omega) (by omega), only_newO (HO4.out.trans HOn5.out) hH (Nat.le_refl _), HC5.out.only hH (fun q hq => by omega)⟩
  have b0 : (z == 0) = false := by simpa using z0
  by_cases z1 : z = 1
  · subst z1
    have hX' : (X : Int) ≤ (c1 : Int) := by omega
    have hX0 : (0 : Int) ≤ (X : Int) := by omega
    have rr := blk_far PR4.out (b := w1.heap.size) (j := 0) (by omega) (.slice (some ⟨g, 0, none⟩) X c1)
    have gg := blk_set PM4.out 0 (.slice (some ⟨g, 0, none⟩) X c1)
    have RR := hide rr
    have r1 := blk_cell rr 0
    have rf1 := blk_free rr 0
    have g1 := blk_cell gg 0
    simp at r1 g1
    clear rr gg
    go_wp2_with fail
    refine bodyPost_ret (results_cell_row (P := Try.prog) (d := _) rfl _ _ w.heap.size 36 #[.slice (some ⟨g, 0, none⟩) X c1] (0, 0) rfl ?_ Try.underlying36 rfl rfl) rfl ?_
    · exact blk_set RR.out 0 _
    · have hset : Only (fun b => b = w1.heap.size ∨ b = w.heap.size) w4 ((w4.setCell ⟨w1.heap.size, 0, none⟩ (.slice (some ⟨g, 0, none⟩) X c1)).setCell ⟨w.heap.size, 0, none⟩ (.slice (some ⟨g, 0, none⟩) X c1)) := ((Only.refl (fun b => b = w1.heap.size ∨ b = w.heap.size) w4).set w1.heap.size 0 (by omega) _).set w.heap.size 0 (by omega) _
      have hs7 := hset.size
      have hC := HOW4.out.cut (k := X) (by omega) (by omega)
      rw [flat_take opF 4 opF_len] at hC
      exact ⟨some ⟨g, 0, none⟩, X, c1, ds.take X, rfl, by omega, by omega, HDS.out.take X, (hC.only hset (fun q h1 h2 h3 => by omega)).more (by omega) (by omega), only_newO HO4.out (hset.mono (fun q hq => by omega)) (Nat.le_refl _), HC4.out.only hset (fun q hq => by omega)⟩
  have b1 : (z == 1) = false := by simpa using z1
  by_cases z2 : z = 2
  · subst z2
    have hs2' : w0.heap.size ≤ w1.heap.size := hs1
    go_wp2_with fail
    go_loopw [] (fun wr => ∃ (k : Nat) (A' : Option Addr) (c' : Nat) (es : List OpD), 1 ≤ k ∧ k ≤ 9 ∧ opL es ∧ wr.heap[w1.heap.size]? = some (.cells #[.slice A' k c'] 36 (0, 0)) ∧ OwOps wr w0.heap.size wr.heap.size (.slice A' k c') k (es.flatMap opF) ∧ wr.heap[w.heap.size]? = some (.cells #[.slice none 0 0] 36 (0, 0)) ∧ w1.heap.size < wr.heap.size ∧ Only (fun b => b = a) w wr ∧ Cur B A n cap a wr)
      (fun wr => 9 - mlen wr w1.heap.size)
    case atStart => exact ⟨n1, some ⟨g, 0, none⟩, c1, ds, by omega, by omega, HDS.out, PM4.out, HOW4.out.more (Nat.le_refl _) (by omega), PR4.out, by omega, HO4.out, HC4.out⟩
    case round =>
      obtain ⟨k, A2, c2, es, hk1, hk9, hes, pm, hown, pr, hsz, ho, hc⟩ := hrel
      clear m0 mf r0 rf hX hn1'
      obtain ⟨g2, rfl⟩ := hown.addr (by omega)
      obtain ⟨K, hK⟩ : ∃ K, k = K + 1 := ⟨k - 1, by omega⟩
      have hel := hown.rl.row opF_len (by omega)
      have HML := hide (mlen_of pm)
      have PM := hide pm
      have PR := hide pr
      have HOW := hide hown
      have HO := hide ho
      have HC := hide hc
      have HES := hide hes
      have HEL := hide hel
      have HK := hide hK
      have hM0 : w0.heap.size ≤ wr.heap.size := by omega
      have m0 := blk_cell pm 0
      simp at m0
      clear pm pr hown ho hc hes hel hK
      go_wp2_with fail
      have gate0 : True := trivial
      go_region_held3 (fun W => W.cell? ⟨w1.heap.size, 0, none⟩ = some (.slice (some ⟨g2, 0, none⟩) k c2)) (first | exact m0) (first
        | (clear gate0; go_at_call 152; refine (spec_l1Below 2 wr.drew HC.out.drewO (by omega) (by omega)).mono ?_; rintro e w5 ⟨y, rfl, hy0, hy1, ho5, hc5⟩; have ho5 : Only (fun b => b = a) wr w5 := ho5.undrewO; have hs5 := ho5.size; have pm5 := (ho5.block w1.heap.size (by omega) (by omega)).trans PM.out; have PM5 := hide pm5; have PR5 := hide ((ho5.block w.heap.size (by omega) (by omega)).trans PR.out); have HOW5 := hide (HOW.out.only ho5 (fun q h1 h2 h3 => by omega)); have HO5 := hide (HO.out.trans ho5); have HC5 := hide hc5; replace m0 := blk_cell pm5 0; simp at m0; have hw : IntKind.i64.wrap (8 + y) = 8 + y := (by rw [IntKind.wrap_i64]; omega); clear pm5 ho5 hc5))
      by_cases hk : (k : Int) < 8 + y
      · have hk8 : k ≤ 8 := by omega
        have hKk : K < es.length := by rw [HEL.out, HK.out]; omega
        have hd : es[K]? = some es[K] := List.getElem?_eq_getElem hKk
        obtain ⟨u, e2, _, hu⟩ := HOW5.out.at_ ((flat_get opF 4 opF_len es K 2 _ hd (by omega)).trans rfl)
        obtain ⟨v, hv⟩ : ∃ v, es[K].o = v := ⟨_, rfl⟩
        obtain rfl : u = .int .i64 es[K].o := hu
        rw [hv] at e2
        have hm1 : (k : Int) - 1 = (K : Int) := by have := HK.out; omega
        have hwk : IntKind.i64.wrap ((k : Int) - 1) = (K : Int) := by rw [IntKind.wrap_i64]; omega
        have hwK : IntKind.i64.wrap (K : Int) = (K : Int) := by rw [IntKind.wrap_i64]; omega
        have h3 : (0 : Int) ≤ (K : Int) := by omega
        have h4 : (K : Int) < (k : Int) := by omega
        have hkb : k < 1073741824 := by omega
        have xa := fun o => cellB ((Below.refl _ _).alloc (Nat.le_refl _) o) m0
        have ya := fun o => cellB ((Below.refl _ _).alloc (Nat.le_refl _) o) e2
        have HP : Hid (OwOps w5.drew w0.heap.size w5.heap.size (.slice (some ⟨g2, 0, none⟩) k c2) k (es.flatMap opF)) := hide ((HOW5.out.more (Nat.le_refl _) hs5).below ((Below.refl w5.heap.size w5).drew))
        have HU : Hid (FOs 3 w5.drew w5.heap.size w5.drew.heap.size none [iv 3, iv v, iv v, .slice none 0 0] [.n 3, .n v, .n v, .s []]) := hide (FOs.op 3 v v (OI.nil _ _ _ _))
        have hneM := HOW5.out.neM PM5.out rfl
        have hg2 := HOW5.out.lt g2 rfl
        have hg20 := hg2.1
        have hg21 := hg2.2.1
        have hL5 : w0.heap.size ≤ w5.heap.size := by omega
        have hM5 : w1.heap.size < w5.heap.size := by omega
        have hR5 : w.heap.size < w5.heap.size := by omega
        have hRg : g2 ≠ w.heap.size := by omega
        have h44 : w5.heap.size ≤ w5.drew.heap.size := Nat.le_refl _
        clear hd hv hg2
        go_wp2_with fail
        --@reg
        have hSS : w5.drew.cell? ⟨w1.heap.size, 0, none⟩ = some (.slice (some ⟨g2, 0, none⟩) k c2) ∧ w5.drew.cell? ⟨g2, K * 4 + 2, none⟩ = some (.int .i64 v) := ⟨m0, e2⟩
        have hSA := fun o => (⟨cellB ((Below.refl _ _).alloc (Nat.le_refl _) o) hSS.1, cellB ((Below.refl _ _).alloc (Nat.le_refl _) o) hSS.2⟩ : (w5.drew.alloc o).cell? ⟨w1.heap.size, 0, none⟩ = some (.slice (some ⟨g2, 0, none⟩) k c2) ∧ (w5.drew.alloc o).cell? ⟨g2, K * 4 + 2, none⟩ = some (.int .i64 v))
        refine wp_region_x (fun W => W.cell? ⟨w1.heap.size, 0, none⟩ = some (.slice (some ⟨g2, 0, none⟩) k c2) ∧ W.cell? ⟨g2, K * 4 + 2, none⟩ = some (.int .i64 v)) 22 (by kernel_rfl) (by kernel_rfl) ?_
        refine GoX.take (i := 0) (d := some 38) (v := .pointer (some ⟨w1.heap.size, 0, none⟩)) rfl rfl (by kernel_rfl) (by kernel_rfl) (by kernel_rfl) (by kernel_rfl) (by kernel_rfl) (by kernel_rfl) (by kernel_rfl) (fun _ _ _ h => h) (Or.inl ⟨by rfl, fun W hW => by (obtain ⟨sA, sB⟩ := hW; go_simp)⟩) hSS ?_
        simp only [Act.put, List.setIfInBounds_toArray, List.set_cons_zero, List.set_cons_succ]
        refine GoX.take (i := 1) (d := some 39) (v := .slice (some ⟨g2, 0, none⟩) k c2) rfl rfl (by kernel_rfl) (by kernel_rfl) (by kernel_rfl) (by kernel_rfl) (by kernel_rfl) (by kernel_rfl) (by kernel_rfl) (fun _ _ _ h => h) (Or.inl ⟨by rfl, fun W hW => by (obtain ⟨sA, sB⟩ := hW; go_simp)⟩) hSS ?_
        simp only [Act.put, List.setIfInBounds_toArray, List.set_cons_zero, List.set_cons_succ]
        refine GoX.take (i := 2) (d := some 40) (v := .pointer (some ⟨w1.heap.size, 0, none⟩)) rfl rfl (by kernel_rfl) (by kernel_rfl) (by kernel_rfl) (by kernel_rfl) (by kernel_rfl) (by kernel_rfl) (by kernel_rfl) (fun _ _ _ h => h) (Or.inl ⟨by rfl, fun W hW => by (obtain ⟨sA, sB⟩ := hW; go_simp)⟩) hSS ?_
        simp only [Act.put, List.setIfInBounds_toArray, List.set_cons_zero, List.set_cons_succ]
        refine GoX.take (i := 3) (d := some 41) (v := .slice (some ⟨g2, 0, none⟩) k c2) rfl rfl (by kernel_rfl) (by kernel_rfl) (by kernel_rfl) (by kernel_rfl) (by kernel_rfl) (by kernel_rfl) (by kernel_rfl) (fun _ _ _ h => h) (Or.inl ⟨by rfl, fun W hW => by (obtain ⟨sA, sB⟩ := hW; go_simp)⟩) hSS ?_
        simp only [Act.put, List.setIfInBounds_toArray, List.set_cons_zero, List.set_cons_succ]
        refine GoX.take (i := 4) (d := some 42) (v := .pointer (some ⟨w1.heap.size, 0, none⟩)) rfl rfl (by kernel_rfl) (by kernel_rfl) (by kernel_rfl) (by kernel_rfl) (by kernel_rfl) (by kernel_rfl) (by kernel_rfl) (fun _ _ _ h => h) (Or.inl ⟨by rfl, fun W hW => by (obtain ⟨sA, sB⟩ := hW; go_simp)⟩) hSS ?_
        simp only [Act.put, List.setIfInBounds_toArray, List.set_cons_zero, List.set_cons_succ]
        refine GoX.take (i := 5) (d := some 43) (v := .slice (some ⟨g2, 0, none⟩) k c2) rfl rfl (by kernel_rfl) (by kernel_rfl) (by kernel_rfl) (by kernel_rfl) (by kernel_rfl) (by kernel_rfl) (by kernel_rfl) (fun _ _ _ h => h) (Or.inl ⟨by rfl, fun W hW => by (obtain ⟨sA, sB⟩ := hW; go_simp)⟩) hSS ?_
        simp only [Act.put, List.setIfInBounds_toArray, List.set_cons_zero, List.set_cons_succ]
        refine GoX.take (i := 6) (d := some 44) (v := .int .i64 (k : Int)) rfl rfl (by kernel_rfl) (by kernel_rfl) (by kernel_rfl) (by kernel_rfl) (by kernel_rfl) (by kernel_rfl) (by kernel_rfl) (fun _ _ _ h => h) (Or.inl ⟨by rfl, fun W hW => by (obtain ⟨sA, sB⟩ := hW; go_simp)⟩) hSS ?_
        simp only [Act.put, List.setIfInBounds_toArray, List.set_cons_zero, List.set_cons_succ]
        refine GoX.take (i := 7) (d := some 45) (v := .int .i64 (K : Int)) rfl rfl (by kernel_rfl) (by kernel_rfl) (by kernel_rfl) (by kernel_rfl) (by kernel_rfl) (by kernel_rfl) (by kernel_rfl) (fun _ _ _ h => h) (Or.inl ⟨by rfl, fun W hW => by (obtain ⟨sA, sB⟩ := hW; go_simp)⟩) hSS ?_
        simp only [Act.put, List.setIfInBounds_toArray, List.set_cons_zero, List.set_cons_succ]
        refine GoX.take (i := 8) (d := some 46) (v := .pointer (some ⟨g2, K * 4, none⟩)) rfl rfl (by kernel_rfl) (by kernel_rfl) (by kernel_rfl) (by kernel_rfl) (by kernel_rfl) (by kernel_rfl) (by kernel_rfl) (fun _ _ _ h => h) (Or.inl ⟨by rfl, fun W hW => by (obtain ⟨sA, sB⟩ := hW; go_simp)⟩) hSS ?_
        simp only [Act.put, List.setIfInBounds_toArray, List.set_cons_zero, List.set_cons_succ]
        refine GoX.take (i := 9) (d := some 47) (v := .pointer (some ⟨g2, K * 4 + 2, none⟩)) rfl rfl (by kernel_rfl) (by kernel_rfl) (by kernel_rfl) (by kernel_rfl) (by kernel_rfl) (by kernel_rfl) (by kernel_rfl) (fun _ _ _ h => h) (Or.inl ⟨by rfl, fun W hW => by (obtain ⟨sA, sB⟩ := hW; go_simp)⟩) hSS ?_
        simp only [Act.put, List.setIfInBounds_toArray, List.set_cons_zero, List.set_cons_succ]
        refine GoX.take (i := 10) (d := some 48) (v := .int .i64 v) rfl rfl (by kernel_rfl) (by kernel_rfl) (by kernel_rfl) (by kernel_rfl) (by kernel_rfl) (by kernel_rfl) (by kernel_rfl) (fun _ _ _ h => h) (Or.inl ⟨by rfl, fun W hW => by (obtain ⟨sA, sB⟩ := hW; go_simp)⟩) hSS ?_
        simp only [Act.put, List.setIfInBounds_toArray, List.set_cons_zero, List.set_cons_succ]
        refine GoX.take (i := 11) (d := some 49) (v := .pointer (some ⟨w1.heap.size, 0, none⟩)) rfl rfl (by kernel_rfl) (by kernel_rfl) (by kernel_rfl) (by kernel_rfl) (by kernel_rfl) (by kernel_rfl) (by kernel_rfl) (fun _ _ _ h => h) (Or.inl ⟨by rfl, fun W hW => by (obtain ⟨sA, sB⟩ := hW; go_simp)⟩) hSS ?_
        simp only [Act.put, List.setIfInBounds_toArray, List.set_cons_zero, List.set_cons_succ]
        refine GoX.take (i := 12) (d := some 50) (v := .slice (some ⟨g2, 0, none⟩) k c2) rfl rfl (by kernel_rfl) (by kernel_rfl) (by kernel_rfl) (by kernel_rfl) (by kernel_rfl) (by kernel_rfl) (by kernel_rfl) (fun _ _ _ h => h) (Or.inl ⟨by rfl, fun W hW => by (obtain ⟨sA, sB⟩ := hW; go_simp)⟩) hSS ?_
        simp only [Act.put, List.setIfInBounds_toArray, List.set_cons_zero, List.set_cons_succ]
        refine GoX.take (i := 13) (d := some 51) (v := .pointer (some ⟨w1.heap.size, 0, none⟩)) rfl rfl (by kernel_rfl) (by kernel_rfl) (by kernel_rfl) (by kernel_rfl) (by kernel_rfl) (by kernel_rfl) (by kernel_rfl) (fun _ _ _ h => h) (Or.inl ⟨by rfl, fun W hW => by (obtain ⟨sA, sB⟩ := hW; go_simp)⟩) hSS ?_
        simp only [Act.put, List.setIfInBounds_toArray, List.set_cons_zero, List.set_cons_succ]
        refine GoX.take (i := 14) (d := some 52) (v := .slice (some ⟨g2, 0, none⟩) k c2) rfl rfl (by kernel_rfl) (by kernel_rfl) (by kernel_rfl) (by kernel_rfl) (by kernel_rfl) (by kernel_rfl) (by kernel_rfl) (fun _ _ _ h => h) (Or.inl ⟨by rfl, fun W hW => by (obtain ⟨sA, sB⟩ := hW; go_simp)⟩) hSS ?_
        simp only [Act.put, List.setIfInBounds_toArray, List.set_cons_zero, List.set_cons_succ]
        refine GoX.take (i := 15) (d := some 53) (v := .int .i64 (k : Int)) rfl rfl (by kernel_rfl) (by kernel_rfl) (by kernel_rfl) (by kernel_rfl) (by kernel_rfl) (by kernel_rfl) (by kernel_rfl) (fun _ _ _ h => h) (Or.inl ⟨by rfl, fun W hW => by (obtain ⟨sA, sB⟩ := hW; go_simp)⟩) hSS ?_
        simp only [Act.put, List.setIfInBounds_toArray, List.set_cons_zero, List.set_cons_succ]
        refine GoX.take (i := 16) (d := some 54) (v := .int .i64 (K : Int)) rfl rfl (by kernel_rfl) (by kernel_rfl) (by kernel_rfl) (by kernel_rfl) (by kernel_rfl) (by kernel_rfl) (by kernel_rfl) (fun _ _ _ h => h) (Or.inl ⟨by rfl, fun W hW => by (obtain ⟨sA, sB⟩ := hW; go_simp)⟩) hSS ?_
        simp only [Act.put, List.setIfInBounds_toArray, List.set_cons_zero, List.set_cons_succ]
        refine GoX.take (i := 17) (d := some 55) (v := .pointer (some ⟨g2, K * 4, none⟩)) rfl rfl (by kernel_rfl) (by kernel_rfl) (by kernel_rfl) (by kernel_rfl) (by kernel_rfl) (by kernel_rfl) (by kernel_rfl) (fun _ _ _ h => h) (Or.inl ⟨by rfl, fun W hW => by (obtain ⟨sA, sB⟩ := hW; go_simp)⟩) hSS ?_
        simp only [Act.put, List.setIfInBounds_toArray, List.set_cons_zero, List.set_cons_succ]
        refine GoX.take (i := 18) (d := some 56) (v := .pointer (some ⟨g2, K * 4 + 2, none⟩)) rfl rfl (by kernel_rfl) (by kernel_rfl) (by kernel_rfl) (by kernel_rfl) (by kernel_rfl) (by kernel_rfl) (by kernel_rfl) (fun _ _ _ h => h) (Or.inl ⟨by rfl, fun W hW => by (obtain ⟨sA, sB⟩ := hW; go_simp)⟩) hSS ?_
        simp only [Act.put, List.setIfInBounds_toArray, List.set_cons_zero, List.set_cons_succ]
        refine GoX.take (i := 19) (d := some 57) (v := .int .i64 v) rfl rfl (by kernel_rfl) (by kernel_rfl) (by kernel_rfl) (by kernel_rfl) (by kernel_rfl) (by kernel_rfl) (by kernel_rfl) (fun _ _ _ h => h) (Or.inl ⟨by rfl, fun W hW => by (obtain ⟨sA, sB⟩ := hW; go_simp)⟩) hSS ?_
        simp only [Act.put, List.setIfInBounds_toArray, List.set_cons_zero, List.set_cons_succ]
        refine GoX.take (i := 20) (d := some 58) (v := .agg #[.int .i64 3, .int .i64 v, .int .i64 v, .slice none 0 0]) rfl rfl (by kernel_rfl) (by kernel_rfl) (by kernel_rfl) (by kernel_rfl) (by kernel_rfl) (by kernel_rfl) (by kernel_rfl) (fun _ _ _ h => h) (Or.inl ⟨by rfl, fun W hW => by (obtain ⟨sA, sB⟩ := hW; go_simp)⟩) hSS ?_
        simp only [Act.put, List.setIfInBounds_toArray, List.set_cons_zero, List.set_cons_succ]
        refine GoX.step (i := 21) rfl (by kernel_rfl) (by kernel_rfl) (fun K' hK => ?_)
        go_simp
        refine hK.out _ _ (hSA _) (fun _ => ?_)
        refine GoX.tail (t := [_, _, _]) rfl (by kernel_rfl) (by kernel_rfl) ?_
        have gate0 : True := trivial
        go_wp2_with (first
          | (at_builtin; clear gate0; go_must (refine wpList_pushL w5.drew [iv 3, iv v, iv v, .slice none 0 0] [.n 3, .n v, .n v, .s []] rfl (.tmp 39) (.tmp 59) _ rfl 3 52 4 48 _ Try.underlying34 op_info rfl (by decide) (by decide) rfl HP.out HU.out rfl rfl hL5 h44 hkb ?_); intro A7 c7 w7 hO7 hon7 _; have hon7 : Only (fun b => (Value.slice (some ⟨g2, 0, none⟩) k c2).ownBlock = some b) w5 w7 := ⟨hon7.os, hon7.tape, hon7.output, hon7.size, hon7.block⟩; have hs7 : w5.heap.size ≤ w7.heap.size := hon7.size; have pm7 := (hon7.block w1.heap.size hM5 (fun hc => hneM (by simpa [Value.ownBlock] using hc))).trans PM5.out; have m7 := blk_cell pm7 0; have mf7 := blk_free pm7 0; simp at m7; have PM7 := hide pm7; have PR7 := hide ((hon7.block w.heap.size hR5 (fun hc => hRg (by simpa [Value.ownBlock] using hc))).trans PR5.out); have HO7 := hide hO7; have HON7 := hide hon7; clear pm7 hO7 hon7))
        --@regend
        go_roundw
        all_goals first
          | (rw [HML.out, mlen_of (blk_set PM7.out 0 _)]; omega)
          | (have hset : Only (fun b => b = w1.heap.size) w7 (w7.setCell ⟨w1.heap.size, 0, none⟩ (.slice A7 (k + 1) c7)) := (Only.refl (fun b => b = w1.heap.size) w7).set w1.heap.size 0 rfl _
             have hH : Only (fun b => w.heap.size ≤ b) w5 (w7.setCell ⟨w1.heap.size, 0, none⟩ (.slice A7 (k + 1) c7)) := (HON7.out.mono (q := fun b => w.heap.size ≤ b) (fun q hq => by (have h9 : g2 = q := (by simpa [Value.ownBlock] using hq); omega))).trans (hset.mono (fun q hq => by omega))
             have hs8 := hset.size
             refine ⟨k + 1, A7, c7, es ++ [⟨3, v, v, []⟩], by omega, by omega, HES.out.snoc (by simp), blk_set PM7.out 0 _, ?_, blk_far PR7.out (by omega) _, by omega, only_newO HO5.out hH (Nat.le_refl _), HC5.out.only hH (fun q hq => by omega)⟩
             rw [flat_one]
             exact (HO7.out.onlyM PM7.out hset).more (Nat.le_refl _) hs8)
      · have r0 := blk_cell PR5.out 0
        have rf := blk_free PR5.out 0
        simp at r0
        go_wp2_with fail
        refine bodyPost_ret (results_cell_row (P := Try.prog) (d := _) rfl _ _ w.heap.size 36 #[.slice (some ⟨g2, 0, none⟩) k c2] (0, 0) rfl ?_ Try.underlying36 rfl rfl) rfl ?_
        · exact blk_set PR5.out 0 _
        · have hset : Only (fun b => b = w.heap.size) w5 (w5.setCell ⟨w.heap.size, 0, none⟩ (.slice (some ⟨g2, 0, none⟩) k c2)) := (Only.refl (fun b => b = w.heap.size) w5).set w.heap.size 0 rfl _
          have hs7 := hset.size
          exact ⟨some ⟨g2, 0, none⟩, k, c2, es, rfl, by omega, by omega, HES.out, (HOW5.out.only hset (fun q h1 h2 h3 => by omega)).more (by omega) (by omega), only_newO HO5.out (hset.mono (fun q hq => by omega)) (Nat.le_refl _), HC5.out.only hset (fun q hq => by omega)⟩
  have b2 : (z == 2) = false := by simpa using z2
  clear z0 z1 z2
  go_wp2_with fail
  refine bodyPost_ret (results_cell_row (P := Try.prog) (d := _) rfl _ _ w.heap.size 36 #[.slice (some ⟨g, 0, none⟩) n1 c1] (0, 0) rfl ?_ Try.underlying36 rfl rfl) rfl ?_
  · exact blk_set PR4.out 0 _
  · have hset : Only (fun b => b = w.heap.size) w4 (w4.setCell ⟨w.heap.size, 0, none⟩ (.slice (some ⟨g, 0, none⟩) n1 c1)) := (Only.refl (fun b => b = w.heap.size) w4).set w.heap.size 0 rfl _
    have hs7 := hset.size
    exact ⟨some ⟨g, 0, none⟩, n1, c1, ds, rfl, by omega, by omega, HDS.out, (HOW4.out.only hset (fun q h1 h2 h3 => by omega)).more (by omega) (by omega), only_newO HO4.out (hset.mono (fun q hq => by omega)) (Nat.le_refl _), HC4.out.only hset (fun q hq => by omega)⟩
end
end Go.Proofs.Ytehfglfbnjdcoaa
