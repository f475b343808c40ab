/-
  Records of numbers and of rows of numbers, and slices of such records: how they read, and how they are owned. All by flattened fields.
-/
import Derived.Test.YtehfglfbnjdcoaaOwn
namespace Go.Proofs.Ytehfglfbnjdcoaa
open Go.RowKit
set_option maxRecDepth 100000

/-- one field: a number, a bool, numbers in a row -/
inductive Fl where
  | n (x : Int)
  | b (x : Bool)
  | s (xs : List Int)
def FV (w : World) (B : Nat) (v : Value) : Fl → Prop
  | .n x => v = .int .i64 x
  | .b x => v = .bool x
  | .s xs => RV w B v xs
def FO (e : TypeId) (w : World) (lo hi : Nat) (v : Value) : Fl → Prop
  | .n x => v = .int .i64 x
  | .b x => v = .bool x
  | .s xs => OI e w lo hi v xs
section
variable {w w' : World} {B B' lo hi lo' hi' : Nat} {v : Value} {f : Fl} {e : TypeId} {p : Nat → Prop}
theorem FV.keep (h : FV w B v f) (hk : ∀ a : Addr, a.block < B → w'.cell? a = w.cell? a) : FV w' B v f := by
  cases f with
  | n x => exact h
  | b x => exact h
  | s xs => exact RV.keep h hk
theorem FV.below (h : FV w B v f) (hb : Below B w w') : FV w' B v f := h.keep fun _ ha => hb.cell ha
theorem FV.more (h : FV w B v f) (hB : B ≤ B') : FV w B' v f := by
  cases f with
  | n x => exact h
  | b x => exact h
  | s xs => exact RV.more h hB
theorem FO.fv (h : FO e w lo hi v f) : FV w hi v f := by
  cases f with
  | n x => exact h
  | b x => exact h
  | s xs => exact OI.rv h
theorem FO.only (h : FO e w lo hi v f) (ho : Only p w w') (hp : ∀ k, v.ownBlock = some k → ¬ p k) : FO e w' lo hi v f := by
  cases f with
  | n x => exact h
  | b x => exact h
  | s xs =>
    obtain ⟨⟨hl, hc⟩, hhi⟩ : OI e w lo hi v xs := h
    refine ⟨⟨hl, ?_⟩, hhi⟩
    rcases hc with hc | ⟨g, cap, cur, rfl, hg, hh, r⟩
    · exact .inl hc
    · have hlt : g < w.heap.size := (Array.getElem?_eq_some_iff.1 hh).1
      exact .inr ⟨g, cap, cur, rfl, hg, (ho.block g hlt (hp g rfl)).trans hh, r⟩
theorem FO.more (h : FO e w lo hi v f) (h1 : lo' ≤ lo) (h2 : hi ≤ hi') : FO e w lo' hi' v f := by
  cases f with
  | n x => exact h
  | b x => exact h
  | s xs => exact OI.more h h1 h2
theorem FO.own (h : FO e w lo hi v f) {b : Nat} (hb : v.ownBlock = some b) : lo ≤ b ∧ b < hi ∧ b < w.heap.size := by
  cases f with
  | n x => obtain rfl : v = .int .i64 x := h; simp [Value.ownBlock] at hb
  | b x => obtain rfl : v = .bool x := h; simp [Value.ownBlock] at hb
  | s xs => exact ⟨(h.1.lt b hb).1, h.2 b hb, (h.1.lt b hb).2⟩
theorem FO.hi_le (h : FO e w lo hi v f) : FO e w lo w.heap.size v f := by
  cases f with
  | n x => exact h
  | b x => exact h
  | s xs => exact OI.hi_le h
end

/-- the slice value '.slice A n c' reads as records of m fields: all fields in a row -/
def RL (m : Nat) (w : World) (B : Nat) (A : Option Addr) (n c : Nat) (fs : List Fl) : Prop :=
  fs.length = n * m ∧ n ≤ c ∧ (0 < n → ∃ b off, A = some ⟨b, off, none⟩ ∧ b < B ∧ ∀ p f, fs[p]? = some f → ∃ v, w.cell? ⟨b, off + p, none⟩ = some v ∧ FV w B v f)
section
variable {w w' : World} {B B' n c m : Nat} {A : Option Addr} {fs : List Fl}
theorem RL.keep (h : RL m w B A n c fs) (hk : ∀ a : Addr, a.block < B → w'.cell? a = w.cell? a) : RL m w' B A n c fs := by
  refine ⟨h.1, h.2.1, fun hn => ?_⟩
  obtain ⟨b, off, hA, hb, hc⟩ := h.2.2 hn
  refine ⟨b, off, hA, hb, fun p f hf => ?_⟩
  obtain ⟨v, hv, hr⟩ := hc p f hf
  exact ⟨v, (hk _ hb).trans hv, hr.keep hk⟩
theorem RL.below (h : RL m w B A n c fs) (hb : Below B w w') : RL m w' B A n c fs := h.keep fun _ ha => hb.cell ha
theorem RL.more (h : RL m w B A n c fs) (hB : B ≤ B') : RL m w B' A n c fs := by
  refine ⟨h.1, h.2.1, fun hn => ?_⟩
  obtain ⟨b, off, hA, hb, hc⟩ := h.2.2 hn
  refine ⟨b, off, hA, by omega, fun p f hf => ?_⟩
  obtain ⟨v, hv, hr⟩ := hc p f hf
  exact ⟨v, hv, hr.more hB⟩
theorem RL.nil (m : Nat) (w : World) (B : Nat) : RL m w B none 0 0 [] := ⟨by simp, Nat.le_refl _, fun h => absurd h (by omega)⟩
end

/-- one place in the flattened fields -/
theorem flat_get {α : Type} (g : α → List Fl) (m : Nat) (hm : ∀ a, (g a).length = m) : ∀ (ds : List α) (j i : Nat) (d : α), ds[j]? = some d → i < m → (ds.flatMap g)[j * m + i]? = (g d)[i]?
  | a :: ds, 0, i, d, h, hi => by
    simp at h; subst h
    rw [List.flatMap_cons, Nat.zero_mul, Nat.zero_add, List.getElem?_append_left (by rw [hm]; exact hi)]
  | a :: ds, j + 1, i, d, h, hi => by
    rw [List.flatMap_cons, List.getElem?_append_right (by rw [hm, Nat.succ_mul]; omega), hm, show (j + 1) * m + i - m = j * m + i by rw [Nat.succ_mul]; omega]
    exact flat_get g m hm ds j i d (by simpa using h) hi
  | [], _, _, _, h, _ => by simp at h
theorem flat_len {α : Type} (g : α → List Fl) (m : Nat) (hm : ∀ a, (g a).length = m) (ds : List α) : (ds.flatMap g).length = ds.length * m := by
  induction ds with
  | nil => simp
  | cons a ds ih => rw [List.flatMap_cons, List.length_append, hm, ih, List.length_cons, Nat.succ_mul, Nat.add_comm]
theorem RL.row {α : Type} {g : α → List Fl} {m : Nat} (hm : ∀ a, (g a).length = m) {w : World} {B n c : Nat} {A : Option Addr} {ds : List α} (h : RL m w B A n c (ds.flatMap g)) (hm0 : 0 < m) : ds.length = n := by
  have := h.1
  rw [flat_len g m hm] at this
  exact Nat.eq_of_mul_eq_mul_right hm0 this

/-- the fields vs own what fs says: each row in a block of its own, none of them the block 'g' -/
structure FOs (e : TypeId) (w : World) (lo hi : Nat) (g : Option Nat) (vs : List Value) (fs : List Fl) : Prop where
  len : vs.length = fs.length
  each : ∀ (p : Nat) v f, vs[p]? = some v → fs[p]? = some f → FO e w lo hi v f
  apart : ∀ (p q : Nat) v u b, p ≠ q → vs[p]? = some v → vs[q]? = some u → v.ownBlock = some b → u.ownBlock ≠ some b
  off : ∀ (p : Nat) v b, vs[p]? = some v → v.ownBlock = some b → g ≠ some b
/-- the slice value v owns records of m fields -/
def OL (e T m : Nat) (w : World) (lo hi : Nat) (v : Value) (n : Nat) (fs : List Fl) : Prop :=
  ∃ vs, w.ownsRow lo T m v n vs ∧ (∀ g, v.ownBlock = some g → g < hi) ∧ FOs e w lo hi v.ownBlock vs fs
section
variable {w w' : World} {lo hi lo' hi' n c m : Nat} {A : Option Addr} {fs : List Fl} {vs : List Value} {e T : TypeId} {v : Value} {p : Nat → Prop} {g : Option Nat}
theorem FOs.only (h : FOs e w lo hi g vs fs) (ho : Only p w w') (hp : ∀ k, lo ≤ k → k < hi → ¬ p k) : FOs e w' lo hi g vs fs :=
  ⟨h.len, fun q v f hv hf => (h.each q v f hv hf).only ho (fun k hk => by
    have := (h.each q v f hv hf).own hk
    exact hp k this.1 this.2.1), h.apart, h.off⟩
theorem FOs.more (h : FOs e w lo hi g vs fs) (h1 : lo' ≤ lo) (h2 : hi ≤ hi') : FOs e w lo' hi' g vs fs :=
  ⟨h.len, fun q v f hv hf => (h.each q v f hv hf).more h1 h2, h.apart, h.off⟩
theorem OL.only (h : OL e T m w lo hi v n fs) (ho : Only p w w') (hp : ∀ k, lo ≤ k → k < hi → ¬ p k) : OL e T m w' lo hi v n fs := by
  obtain ⟨vs, ⟨hl, hc⟩, hhi, hf⟩ := h
  refine ⟨vs, ⟨hl, ?_⟩, hhi, hf.only ho hp⟩
  rcases hc with hc | ⟨g, cap, cur, rfl, hg, hh, r⟩
  · exact .inl hc
  · have hlt : g < w.heap.size := (Array.getElem?_eq_some_iff.1 hh).1
    exact .inr ⟨g, cap, cur, rfl, hg, (ho.block g hlt (hp g hg (hhi g rfl))).trans hh, r⟩
theorem OL.below (h : OL e T m w lo hi v n fs) (hb : Below w.heap.size w w') : OL e T m w' lo hi v n fs := h.only (p := fun _ => False) (Only.of_below hb) (fun _ _ _ h => h)
theorem OL.more (h : OL e T m w lo hi v n fs) (h1 : lo' ≤ lo) (h2 : hi ≤ hi') : OL e T m w lo' hi' v n fs := by
  obtain ⟨vs, ⟨hl, hc⟩, hhi, hf⟩ := h
  refine ⟨vs, ⟨hl, ?_⟩, fun g hg => Nat.lt_of_lt_of_le (hhi g hg) h2, hf.more h1 h2⟩
  rcases hc with hc | ⟨g, cap, cur, rfl, hg, r⟩
  · exact .inl hc
  · exact .inr ⟨g, cap, cur, rfl, by omega, r⟩
theorem OL.rl (h : OL e T m w lo hi (.slice A n c) n fs) : RL m w hi A n c fs := by
  obtain ⟨vs, ⟨hl, hc⟩, hhi, hf⟩ := h
  refine ⟨by rw [← hf.len, hl], ?_, fun hn => ?_⟩
  · rcases hc with ⟨h1, rfl⟩ | ⟨g, cap, cur, h1, hg, hh, hn, _⟩
    · exact Nat.zero_le _
    · simp at h1; omega
  · rcases hc with ⟨h1, rfl⟩ | ⟨g, cap, cur, h1, hg, hh, hn', hm', hs, ht⟩
    · omega
    · simp only [Value.slice.injEq] at h1
      obtain ⟨rfl, _, rfl⟩ := h1
      refine ⟨g, 0, rfl, hhi g rfl, fun p f hp => ?_⟩
      have hpl : p < vs.length := by
        have := (List.getElem?_eq_some_iff.1 hp).1
        rw [hf.len]; exact this
      have ho : w.ownsRow lo T m (.slice (some ⟨g, 0, none⟩) n c) n vs := ⟨hl, .inr ⟨g, c, cur, rfl, hg, hh, hn', hm', hs, ht⟩⟩
      obtain ⟨u, hu⟩ : ∃ u, vs[p]? = some u := ⟨_, List.getElem?_eq_getElem hpl⟩
      refine ⟨u, ?_, (hf.each p u f hu hp).fv⟩
      rw [Nat.zero_add, ho.cellAt p (by rw [← hl]; exact hpl), hu]
theorem OL.lt (h : OL e T m w lo hi v n fs) : ∀ k, v.ownBlock = some k → lo ≤ k ∧ k < hi ∧ k < w.heap.size := fun k hk => by
  obtain ⟨vs, ho, hhi, _⟩ := h
  exact ⟨(ho.lt k hk).1, hhi k hk, (ho.lt k hk).2⟩
theorem OL.form (h : OL e T m w lo hi v n fs) : ∃ A c, v = .slice A n c := by
  obtain ⟨vs, ⟨hl, hc⟩, _⟩ := h
  rcases hc with ⟨rfl, rfl⟩ | ⟨g, cap, cur, rfl, _⟩
  · exact ⟨none, 0, rfl⟩
  · exact ⟨_, _, rfl⟩
/-- all that it owns lies among the blocks that are there -/
theorem OL.hi_le (h : OL e T m w lo hi v n fs) : OL e T m w lo w.heap.size v n fs := by
  obtain ⟨vs, ho, hhi, hf⟩ := h
  exact ⟨vs, ho, fun g hg => (ho.lt g hg).2, hf.len, fun q u f hu hff => (hf.each q u f hu hff).hi_le, hf.apart, hf.off⟩
/-- a step on another thing, which lies apart -/
theorem OL.farI (h : OL e T m w lo hi v n fs) (ho : Only (fun b => lo' ≤ b ∧ b < hi') w w') (hd : hi ≤ lo' ∨ hi' ≤ lo) : OL e T m w' lo hi v n fs :=
  h.only ho fun k h1 h2 h3 => by omega
theorem OI.farI {xs : List Int} (h : OI e w lo hi v xs) (ho : Only (fun b => lo' ≤ b ∧ b < hi') w w') (hd : hi ≤ lo' ∨ hi' ≤ lo) : OI e w' lo hi v xs :=
  h.only ho fun k h1 h2 h3 => by omega
end

/-! ### marks -/
def mk1 (k : Int) : Fl → Fl
  | .n _ => .n k
  | .b x => .b x
  | .s xs => .s (marks k xs.length)
def sz1 : Fl → Nat
  | .n _ => 1
  | .b _ => 0
  | .s xs => xs.length
/-- how many marks -/
def mkN : List Fl → Nat
  | [] => 0
  | f :: fs => sz1 f + mkN fs
def mkF : Int → List Fl → List Fl
  | _, [] => []
  | k, f :: fs => mk1 k f :: mkF (k + sz1 f) fs
theorem mkF_len : ∀ (fs : List Fl) (k : Int), (mkF k fs).length = fs.length
  | [], _ => rfl
  | f :: fs, k => by rw [mkF, List.length_cons, mkF_len fs, List.length_cons]
theorem mkN_take : ∀ (fs : List Fl) (p : Nat) (f : Fl), fs[p]? = some f → mkN (fs.take (p + 1)) = mkN (fs.take p) + sz1 f
  | a :: fs, 0, f, h => by simp at h; subst h; simp [mkN]
  | a :: fs, p + 1, f, h => by
    rw [List.take_succ_cons, mkN, mkN_take fs p f (by simpa using h), List.take_succ_cons, mkN, Nat.add_assoc]
  | [], _, _, h => by simp at h
theorem mkN_le : ∀ (fs : List Fl) (p : Nat), mkN (fs.take p) ≤ mkN fs
  | [], p => by simp
  | a :: fs, 0 => by simp [mkN]
  | a :: fs, p + 1 => by rw [List.take_succ_cons, mkN, mkN]; have := mkN_le fs p; omega
theorem mkF_get : ∀ (fs : List Fl) (k : Int) (p : Nat) (f : Fl), fs[p]? = some f → (mkF k fs)[p]? = some (mk1 (k + mkN (fs.take p)) f)
  | a :: fs, k, 0, f, h => by simp at h; subst h; simp [mkF, mkN]
  | a :: fs, k, p + 1, f, h => by
    rw [mkF, List.getElem?_cons_succ, mkF_get fs _ p f (by simpa using h), List.take_succ_cons, mkN, Int.natCast_add, Int.add_assoc]
  | [], _, _, _, h => by simp at h
/-- marked up to p -/
def mkTo (k : Int) (p : Nat) (fs : List Fl) : List Fl := mkF k (fs.take p) ++ fs.drop p
theorem mkTo_zero (k : Int) (fs : List Fl) : mkTo k 0 fs = fs := by simp [mkTo, mkF]
theorem mkTo_all (k : Int) (fs : List Fl) (p : Nat) (h : fs.length ≤ p) : mkTo k p fs = mkF k fs := by
  simp [mkTo, List.take_of_length_le h, List.drop_of_length_le h]
theorem mkTo_get (k : Int) (fs : List Fl) (p q : Nat) (h : p ≤ q) : (mkTo k p fs)[q]? = fs[q]? := by
  by_cases hp : p ≤ fs.length
  · have hl : (mkF k (fs.take p)).length = p := by rw [mkF_len, List.length_take]; omega
    rw [mkTo, List.getElem?_append_right (by omega), hl, List.getElem?_drop, show p + (q - p) = q by omega]
  · rw [mkTo, List.drop_of_length_le (by omega), List.append_nil, List.getElem?_eq_none (by rw [mkF_len, List.length_take]; omega), List.getElem?_eq_none (by omega)]
theorem mkF_append : ∀ (fs gs : List Fl) (k : Int), mkF k (fs ++ gs) = mkF k fs ++ mkF (k + mkN fs) gs
  | [], gs, k => by simp [mkF, mkN]
  | f :: fs, gs, k => by rw [List.cons_append, mkF, mkF_append fs gs, mkF, mkN, List.cons_append, Int.natCast_add, Int.add_assoc]
theorem mkTo_set (k : Int) (fs : List Fl) (p : Nat) (f : Fl) (h : fs[p]? = some f) : (mkTo k p fs).set p (mk1 (k + mkN (fs.take p)) f) = mkTo k (p + 1) fs := by
  have hp := (List.getElem?_eq_some_iff.1 h).1
  have hl : (mkF k (fs.take p)).length = p := by rw [mkF_len, List.length_take]; omega
  have hd : fs.drop p = f :: fs.drop (p + 1) := by
    rw [List.drop_eq_getElem_cons hp]
    congr 1
    rw [List.getElem?_eq_getElem hp] at h
    simpa using h
  have ht : fs.take (p + 1) = fs.take p ++ [f] := by
    rw [List.take_succ_eq_append_getElem hp]
    rw [List.getElem?_eq_getElem hp] at h
    simp at h
    rw [h]
  rw [mkTo, List.set_append_right _ _ (by omega), hl, Nat.sub_self, hd, List.set_cons_zero, mkTo, ht, mkF_append]
  simp [mkF]
theorem mkTo_len (k : Int) (p : Nat) (fs : List Fl) : (mkTo k p fs).length = fs.length := by
  rw [mkTo, List.length_append, mkF_len, List.length_take, List.length_drop]; omega
theorem getElem?_set_some {α : Type} {xs : List α} {p q : Nat} {x y : α} (h : (xs.set p x)[q]? = some y) : (p = q ∧ y = x ∧ q < xs.length) ∨ (p ≠ q ∧ xs[q]? = some y) := by
  rw [List.getElem?_set] at h
  split at h
  · split at h
    · exact .inl ⟨by assumption, by simpa using h.symm, by omega⟩
    · cases h
  · exact .inr ⟨by assumption, h⟩
section
variable {w w' : World} {lo hi n m : Nat} {fs : List Fl} {e T : TypeId} {v : Value}
theorem OL.cellAt (h : OL e T m w lo hi v n fs) {p : Nat} {f : Fl} (hp : fs[p]? = some f) :
    ∃ b c u, v = .slice (some ⟨b, 0, none⟩) n c ∧ n ≤ c ∧ lo ≤ b ∧ b < hi ∧ w.cell? ⟨b, p, none⟩ = some u ∧ w.frozen? ⟨b, p, none⟩ = false ∧ FO e w lo hi u f := by
  obtain ⟨vs, ho, hhi, hf⟩ := h
  have hpl : p < vs.length := by
    have := (List.getElem?_eq_some_iff.1 hp).1
    rw [hf.len]; exact this
  obtain ⟨u, hu⟩ : ∃ u, vs[p]? = some u := ⟨_, List.getElem?_eq_getElem hpl⟩
  have hq := ho.2
  rcases hq with ⟨_, rfl⟩ | ⟨g, cap, cur, rfl, hg, hh, hn', hm', hs, ht⟩
  · have := ho.1; simp at this; subst this; simp at hpl
  · exact ⟨g, cap, u, rfl, hn', hg, hhi g rfl, by rw [ho.cellAt p (by rw [← ho.1]; exact hpl), hu], ho.frozenAt p, hf.each p u f hu hp⟩
/-- a row of it has turned -/
theorem OL.turn_s (h : OL e T m w lo hi v n fs) {p b c : Nat} {xs : List Int} {u : Value} (hp : fs[p]? = some (.s xs)) (hv : v = .slice (some ⟨b, 0, none⟩) n c) (hu : w.cell? ⟨b, p, none⟩ = some u)
    {ys : List Int} (hy : OI e w' lo hi u ys) (ho : Only (fun k => u.ownBlock = some k) w w') : OL e T m w' lo hi v n (fs.set p (.s ys)) := by
  obtain ⟨vs, hown, hhi, hf⟩ := h
  have hpl : p < vs.length := by
    have := (List.getElem?_eq_some_iff.1 hp).1
    rw [hf.len]; exact this
  subst hv
  have hup : vs[p]? = some u := by rw [← hown.cellAt p (by rw [← hown.1]; exact hpl)]; exact hu
  refine ⟨vs, ⟨hown.1, ?_⟩, hhi, ⟨by rw [List.length_set]; exact hf.len, fun q u' f hu' hq => ?_, hf.apart, hf.off⟩⟩
  · rcases hown.2 with hc | ⟨g, cap, cur, h1, hg, hh, r⟩
    · exact .inl hc
    · refine .inr ⟨g, cap, cur, h1, hg, ?_, r⟩
      have hlt : g < w.heap.size := (Array.getElem?_eq_some_iff.1 hh).1
      refine (ho.block g hlt fun hk => ?_).trans hh
      simp only [Value.slice.injEq, Option.some.injEq, Addr.mk.injEq] at h1
      exact hf.off p u g hup hk (by rw [h1.1.1]; rfl)
  · rcases getElem?_set_some hq with ⟨rfl, rfl, _⟩ | ⟨hne, hq'⟩
    · rw [hup] at hu'
      obtain rfl : u = u' := by simpa using hu'
      exact hy
    · exact (hf.each q u' f hu' hq').only ho fun k hk hk' => hf.apart p q u u' k hne hup hu' hk' hk
/-- a number of it has turned -/
theorem OL.turn_n (h : OL e T m w lo hi v n fs) {p b c : Nat} (hv : v = .slice (some ⟨b, 0, none⟩) n c) (y : Int) :
    OL e T m (w.setCell ⟨b, p, none⟩ (.int .i64 y)) lo hi v n (fs.set p (.n y)) := by
  obtain ⟨vs, hown, hhi, hf⟩ := h
  subst hv
  have hon : Only (fun k => b = k) w (w.setCell ⟨b, p, none⟩ (.int .i64 y)) := ⟨rfl, rfl, rfl, by simp [World.setCell], fun k _ hk => Below.heap_setCell _ _ _ _ (fun e => hk e.symm)⟩
  refine ⟨vs.set p (.int .i64 y), (hown.stored p _).1, hhi, ⟨by rw [List.length_set, List.length_set]; exact hf.len, fun q u' f hu' hq => ?_, fun q r u z b' hne hu hz hb => ?_, fun q u b' hu hb => ?_⟩⟩
  · rcases getElem?_set_some hq with ⟨rfl, rfl, _⟩ | ⟨hne, hq'⟩
    · rcases getElem?_set_some hu' with ⟨_, rfl, _⟩ | ⟨hne, _⟩
      · rfl
      · exact absurd rfl hne
    · rcases getElem?_set_some hu' with ⟨he, _, _⟩ | ⟨_, hu''⟩
      · exact absurd he hne
      · exact (hf.each q u' f hu'' hq').only hon fun k hk hk' => hf.off q u' k hu'' hk (by rw [← hk']; rfl)
  · rcases getElem?_set_some hu with ⟨_, rfl, _⟩ | ⟨_, hu'⟩
    · simp [Value.ownBlock] at hb
    · rcases getElem?_set_some hz with ⟨_, rfl, _⟩ | ⟨_, hz'⟩
      · simp [Value.ownBlock]
      · exact hf.apart q r u z b' hne hu' hz' hb
  · rcases getElem?_set_some hu with ⟨_, rfl, _⟩ | ⟨_, hu'⟩
    · simp [Value.ownBlock] at hb
    · exact hf.off q u b' hu' hb
end

theorem boxfarI {w w' : World} {lo hi : Nat} {p : Addr} {x : Value} (ho : Only (fun b => lo ≤ b ∧ b < hi) w w') (hc : w.cell? p = some x) (hd : p.block < lo ∨ hi ≤ p.block) : w'.cell? p = some x := by
  rw [ho.cell (World.block_lt_of_cell? w p hc) (fun h3 => by omega)]
  exact hc
theorem ownsRow_form {w : World} {base e size n : Nat} {v : Value} {xs : List Value} (h : w.ownsRow base e size v n xs) : ∃ A c, v = .slice A n c := by
  rcases h.2 with ⟨hv, hn⟩ | ⟨g, cap, cur, hv, _⟩
  · exact ⟨none, 0, by rw [hv, hn]⟩
  · exact ⟨_, _, hv⟩
/-! ### stores and appends -/
section
variable {w w' : World} {lo mid hi n m : Nat} {fs gs : List Fl} {e T : TypeId} {v v' : Value}
/-- a field is laid anew: what it owns lies behind all that was owned -/
theorem OL.put (h : OL e T m w lo mid v n fs) {p b c : Nat} {u : Value} {f : Fl} (hp : p < fs.length) (hv : v = .slice (some ⟨b, 0, none⟩) n c) (hu : FO e w mid hi u f) (hm : mid ≤ hi) :
    OL e T m (w.setCell ⟨b, p, none⟩ u) lo hi v n (fs.set p f) := by
  obtain ⟨vs, hown, hhi, hf⟩ := h
  subst hv
  have hbm : b < mid := hhi b rfl
  have hon : Only (fun k => b = k) w (w.setCell ⟨b, p, none⟩ u) := ⟨rfl, rfl, rfl, by simp [World.setCell], fun k _ hk => Below.heap_setCell _ _ _ _ (fun e => hk e.symm)⟩
  have hpl : p < vs.length := by rw [hf.len]; exact hp
  have hold : ∀ (q : Nat) (z : Value) (k : Nat), vs[q]? = some z → z.ownBlock = some k → k < mid := fun q z k hz hk => by
    have hq := (List.getElem?_eq_some_iff.1 hz).1
    obtain ⟨g, hg⟩ : ∃ g, fs[q]? = some g := ⟨_, List.getElem?_eq_getElem (by rw [← hf.len]; exact hq)⟩
    exact ((hf.each q z g hz hg).own hk).2.1
  refine ⟨vs.set p u, (hown.stored p _).1, fun g hg => Nat.lt_of_lt_of_le (hhi g hg) hm, ⟨by rw [List.length_set, List.length_set]; exact hf.len, fun q u' f' hu' hq => ?_, fun q r a z b' hne ha hz hb => ?_, fun q a b' ha hb => ?_⟩⟩
  · rcases getElem?_set_some hq with ⟨rfl, rfl, _⟩ | ⟨hne, hq'⟩
    · rcases getElem?_set_some hu' with ⟨_, rfl, _⟩ | ⟨hne, _⟩
      · exact (hu.only hon fun k hk hk' => by have := (hu.own hk).1; omega).more (by
          have := (hown.lt b rfl).1
          omega) (Nat.le_refl _)
      · exact absurd rfl hne
    · rcases getElem?_set_some hu' with ⟨he, _, _⟩ | ⟨_, hu''⟩
      · exact absurd he hne
      · exact ((hf.each q u' f' hu'' hq').only hon fun k hk hk' => hf.off q u' k hu'' hk (by rw [← hk']; rfl)).more (Nat.le_refl _) hm
  · rcases getElem?_set_some ha with ⟨_, rfl, _⟩ | ⟨_, ha'⟩
    · rcases getElem?_set_some hz with ⟨h1, rfl, _⟩ | ⟨_, hz'⟩
      · omega
      · intro hc
        have := (hu.own hb).1
        have := hold r z b' hz' hc
        omega
    · rcases getElem?_set_some hz with ⟨_, rfl, _⟩ | ⟨_, hz'⟩
      · intro hc
        have := (hu.own hc).1
        have := hold q a b' ha' hb
        omega
      · exact hf.apart q r a z b' hne ha' hz' hb
  · rcases getElem?_set_some ha with ⟨_, rfl, _⟩ | ⟨_, ha'⟩
    · intro hc
      have := (hu.own hb).1
      have : b = b' := by simpa [Value.ownBlock] using hc
      omega
    · exact hf.off q a b' ha' hb
/-- .. has been appended to: what came owns what lies behind all that was owned -/
theorem OL.push {vs us : List Value} {k : Nat} (hhi : ∀ g, v.ownBlock = some g → g < mid) (hf : FOs e w lo mid v.ownBlock vs fs) (hu : FOs e w mid hi none us gs) (hlm : lo ≤ mid)
    (hown' : w'.ownsRow lo T m v' (n + k) (vs ++ us)) (hg : w.grownBy w' v.ownBlock) (hat : v'.ownBlock = v.ownBlock ∨ ∃ g, v'.ownBlock = some g ∧ hi ≤ g ∧ w.heap.size ≤ g) :
    OL e T m w' lo w'.heap.size v' (n + k) (fs ++ gs) := by
  have hon : Only (fun q => v.ownBlock = some q) w w' := Only.of_grown hg (fun k hk => hk)
  have hold : ∀ (q : Nat) (z : Value) (b : Nat), vs[q]? = some z → z.ownBlock = some b → lo ≤ b ∧ b < mid ∧ b < w.heap.size := fun q z b hz hb => by
    have hq := (List.getElem?_eq_some_iff.1 hz).1
    obtain ⟨g, hg⟩ : ∃ g, fs[q]? = some g := ⟨_, List.getElem?_eq_getElem (by rw [← hf.len]; exact hq)⟩
    exact (hf.each q z g hz hg).own hb
  have hnew : ∀ (q : Nat) (z : Value) (b : Nat), us[q]? = some z → z.ownBlock = some b → mid ≤ b ∧ b < hi ∧ b < w.heap.size := fun q z b hz hb => by
    have hq := (List.getElem?_eq_some_iff.1 hz).1
    obtain ⟨g, hg⟩ : ∃ g, gs[q]? = some g := ⟨_, List.getElem?_eq_getElem (by rw [← hu.len]; exact hq)⟩
    exact (hu.each q z g hz hg).own hb
  have hsplit : ∀ (q : Nat) (z : Value), (vs ++ us)[q]? = some z → (q < vs.length ∧ vs[q]? = some z) ∨ (vs.length ≤ q ∧ us[q - vs.length]? = some z) := fun q z hz => by
    by_cases hq : q < vs.length
    · rw [List.getElem?_append_left hq] at hz; exact .inl ⟨hq, hz⟩
    · rw [List.getElem?_append_right (by omega)] at hz; exact .inr ⟨by omega, hz⟩
  refine ⟨vs ++ us, hown', fun g hgg => (hown'.lt g hgg).2, ⟨by rw [List.length_append, List.length_append, hf.len, hu.len], fun q z f hz hq => ?_, fun q r a z b hne ha hz hb => ?_, fun q a b ha hb => ?_⟩⟩
  · rcases hsplit q z hz with ⟨hq', hz'⟩ | ⟨hq', hz'⟩
    · rw [List.getElem?_append_left (by rw [← hf.len]; exact hq')] at hq
      exact ((hf.each q z f hz' hq).only hon fun k hk hk' => hf.off q z k hz' hk hk').hi_le
    · rw [List.getElem?_append_right (by rw [← hf.len]; exact hq'), ← hf.len] at hq
      exact (((hu.each _ z f hz' hq).only hon fun k hk hk' => by have := hhi k hk'; have := (hnew _ z k hz' hk).1; omega).more hlm (Nat.le_refl _)).hi_le
  · rcases hsplit q a ha with ⟨hq', ha'⟩ | ⟨hq', ha'⟩
    · rcases hsplit r z hz with ⟨hr', hz'⟩ | ⟨hr', hz'⟩
      · exact hf.apart q r a z b hne ha' hz' hb
      · intro hc
        have := hold q a b ha' hb
        have := hnew _ z b hz' hc
        omega
    · rcases hsplit r z hz with ⟨hr', hz'⟩ | ⟨hr', hz'⟩
      · intro hc
        have := hold r z b hz' hc
        have := hnew _ a b ha' hb
        omega
      · exact hu.apart _ _ a z b (by omega) ha' hz' hb
  · rcases hat with hat | ⟨g, hat, hg1, hg2⟩
    · rw [hat]
      rcases hsplit q a ha with ⟨hq', ha'⟩ | ⟨hq', ha'⟩
      · exact hf.off q a b ha' hb
      · intro hc
        have := hhi b hc
        have := (hnew _ a b ha' hb).1
        omega
    · rw [hat]
      intro hc
      have hgb : g = b := by simpa using hc
      rcases hsplit q a ha with ⟨hq', ha'⟩ | ⟨hq', ha'⟩
      · have := hold q a b ha' hb; omega
      · have := hnew _ a b ha' hb; omega
end
/-- fields laid one by one from p on -/
def putAt : List Fl → Nat → List Fl → List Fl
  | fs, _, [] => fs
  | fs, p, g :: gs => putAt (fs.set p g) (p + 1) gs
theorem putAt_skip (a : List Fl) : ∀ (gs b : List Fl) (q : Nat), putAt (a ++ b) (a.length + q) gs = a ++ putAt b q gs
  | [], b, q => rfl
  | g :: gs, b, q => by
    rw [putAt, List.set_append_right _ _ (by omega), show a.length + q - a.length = q by omega, Nat.add_assoc, putAt_skip a gs, putAt]
theorem putAt_over : ∀ (pre gs a b : List Fl), a.length = gs.length → putAt (pre ++ (a ++ b)) pre.length gs = pre ++ (gs ++ b)
  | pre, [], a, b, h => by
    have : a = [] := by simpa using h
    subst this; rfl
  | pre, g :: gs, x :: a, b, h => by
    rw [putAt, List.set_append_right _ _ (Nat.le_refl _), Nat.sub_self, List.cons_append, List.set_cons_zero]
    have := putAt_over (pre ++ [g]) gs a b (by simpa using h)
    rw [List.length_append, List.append_assoc, List.append_assoc] at this
    simpa using this
  | pre, _ :: _, [], b, h => by simp at h
theorem putAt_flat {α : Type} (g : α → List Fl) (m : Nat) (hm : ∀ a, (g a).length = m) : ∀ (l : List α) (j : Nat) (d : α), j < l.length → putAt (l.flatMap g) (j * m) (g d) = (l.set j d).flatMap g
  | a :: l, 0, d, _ => by
    have := putAt_over [] (g d) (g a) (l.flatMap g) (by rw [hm, hm])
    simpa using this
  | a :: l, j + 1, d, h => by
    rw [List.flatMap_cons, List.set_cons_succ, List.flatMap_cons, show (j + 1) * m = (g a).length + j * m by rw [hm, Nat.succ_mul, Nat.add_comm], putAt_skip, putAt_flat g m hm l j d (by simpa using h)]
  | [], j, d, h => by simp at h
theorem set_takeD {α : Type} (ds : List α) (z d : α) (k n : Nat) (hn : ds.length = n) (hk : ds[k]? = some d) :
    (ds.take k ++ List.replicate (n - k) z).set k d = ds.take (k + 1) ++ List.replicate (n - (k + 1)) z := by
  have hlt := (List.getElem?_eq_some_iff.1 hk).1
  have h1 : (ds.take k).length = k := by rw [List.length_take]; omega
  rw [List.set_append_right _ _ (by omega), h1, Nat.sub_self, show n - k = (n - (k + 1)) + 1 from by omega, List.replicate_succ, List.set_cons_zero, List.take_succ_eq_append_getElem (by omega), List.append_assoc]
  rw [List.getElem?_eq_getElem hlt] at hk
  simp at hk
  rw [hk]; rfl
theorem take_allD {α : Type} (ds : List α) (z : α) (n k : Nat) (hn : ds.length = n) (hk : n ≤ k) : ds.take k ++ List.replicate (n - k) z = ds := by
  rw [List.take_of_length_le (by omega), show n - k = 0 from by omega]; simp

/-- 'make' of records -/
theorem run_make_recs {P : Program} (t e : TypeId) (z : Value) (m bytes : Nat) (ht : P.underlying t = some (.slice e)) (hinfo : (P.info? e).map (fun i => (i.zero, i.size, i.bytes)) = some (some z, m, bytes))
    (n : Nat) (hbytes : bytes * n ≤ 281474976710656) (h63 : n ≤ 9223372036854775807) (w : World) :
    (Instr.makeSlice t (.int .i64 (n : Int)) (.int .i64 (n : Int))).run P w = .ok (.slice (some ⟨w.heap.size, 0, none⟩) n n) (w.alloc (.cells (madeCells z.cells (n * m)) e)) := by
  obtain ⟨i, hi, hzz⟩ := Option.map_eq_some_iff.1 hinfo
  simp only [Prod.mk.injEq] at hzz
  obtain ⟨hz, hs, hb⟩ := hzz
  have hb' : (i.bytes : Int) * (n : Int) ≤ 281474976710656 := by
    have h : ((i.bytes * n : Nat) : Int) ≤ 281474976710656 := by rw [hb]; omega
    rwa [Int.natCast_mul] at h
  have hr := run_make (P := P) w t e i z ht hi hz .i64 .i64 n n (by omega) (Int.le_refl _) hb' (by omega)
  simp only [Int.toNat_natCast, hs] at hr
  exact hr
theorem OL.made {α : Type} {e T m n : Nat} (w : World) (g : α → List Fl) (z : α) (hm0 : 0 < m) (hm : ∀ a, (g a).length = m) (zs : Array Value) (hzs : zs.size = m) (hn : n ≤ 1048576)
    (hz : ∀ (i : Nat) v f, zs[i]? = some v → (g z)[i]? = some f → ∀ W lo hi, FO e W lo hi v f) (ho : ∀ (i : Nat) v, zs[i]? = some v → v.ownBlock = none) :
    OL e T m (w.alloc (.cells (madeCells zs (n * m)) T)) w.heap.size (w.heap.size + 1) (.slice (some ⟨w.heap.size, 0, none⟩) n n) n ((List.replicate n z).flatMap g) := by
  have hsz : (madeCells zs (n * m)).size = n * m := by simp [madeCells]
  have hget : ∀ (p : Nat) v, (madeCells zs (n * m)).toList[p]? = some v → p < n * m ∧ zs[p % m]? = some v := by
    intro p v h
    have hp : p < n * m := by
      have := (List.getElem?_eq_some_iff.1 h).1
      rw [Array.length_toList, hsz] at this; exact this
    have hlt : p % m < zs.size := by rw [hzs]; exact Nat.mod_lt _ hm0
    refine ⟨hp, ?_⟩
    simp [madeCells, hp, hzs, Array.getElem!_eq_getD] at h
    rw [Array.getElem?_eq_getElem hlt]
    rw [Array.getElem?_eq_getElem hlt] at h
    simpa using h
  refine ⟨(madeCells zs (n * m)).toList, World.ownsRow_lit w _ n (Nat.le_refl _) (by simp only [maxLen]; omega) hsz, fun g hg => ?_, ⟨?_, fun p v f hv hf => ?_, fun p q v u b _ hv _ hb => ?_, fun p v b hv hb => ?_⟩⟩
  · simp [Value.ownBlock] at hg; omega
  · rw [Array.length_toList, hsz, flat_len g m hm]; simp
  · obtain ⟨hp, hv'⟩ := hget p v hv
    have hj : p / m < n := by rw [Nat.div_lt_iff_lt_mul hm0]; exact hp
    have := flat_get g m hm (List.replicate n z) (p / m) (p % m) z (by simp [hj]) (Nat.mod_lt _ hm0)
    rw [Nat.div_add_mod'] at this
    rw [this] at hf
    exact hz _ _ _ hv' hf _ _ _
  · rw [ho _ _ (hget p v hv).2] at hb; cases hb
  · rw [ho _ _ (hget p v hv).2] at hb; cases hb
theorem get_takeD {α : Type} (ds : List α) (z : α) (k n : Nat) (hn : ds.length = n) (hk : k < n) : (ds.take k ++ List.replicate (n - k) z)[k]? = some z := by
  have h1 : (ds.take k).length = k := by rw [List.length_take]; omega
  rw [List.getElem?_append_right (by omega), h1, Nat.sub_self, List.getElem?_replicate, if_pos (by omega)]
theorem len_takeD {α : Type} (ds : List α) (z : α) (k n : Nat) (hn : ds.length = n) (hk : k ≤ n) : (ds.take k ++ List.replicate (n - k) z).length = n := by
  rw [List.length_append, List.length_take, List.length_replicate]; omega
/-- what lies at a place of an owned slice, in the block that is known -/
theorem OL.at_ {w : World} {lo hi n c m b : Nat} {fs : List Fl} {e T : TypeId} (h : OL e T m w lo hi (.slice (some ⟨b, 0, none⟩) n c) n fs) {p : Nat} {f : Fl} (hp : fs[p]? = some f) :
    ∃ u, w.cell? ⟨b, p, none⟩ = some u ∧ w.frozen? ⟨b, p, none⟩ = false ∧ FO e w lo hi u f := by
  obtain ⟨vs, ho, hhi, hf⟩ := h
  have hpl : p < vs.length := by
    have := (List.getElem?_eq_some_iff.1 hp).1
    rw [hf.len]; exact this
  obtain ⟨u, hu⟩ : ∃ u, vs[p]? = some u := ⟨_, List.getElem?_eq_getElem hpl⟩
  exact ⟨u, by rw [ho.cellAt p (by rw [← ho.1]; exact hpl), hu], ho.frozenAt p, hf.each p u f hu hp⟩
theorem Only.set {p : Nat → Prop} {w w' : World} (h : Only p w w') (b o : Nat) (hp : p b) (u : Value) : Only p w (w'.setCell ⟨b, o, none⟩ u) :=
  h.trans ⟨rfl, rfl, rfl, by simp [World.setCell], fun k _ hn => Below.heap_setCell _ _ _ _ (fun e => hn (e ▸ hp))⟩
theorem below_set {B : Nat} {w w' : World} (h : Below B w w') (b o : Nat) (hp : B ≤ b) (u : Value) : Below B w (w'.setCell ⟨b, o, none⟩ u) := h.setCell hp u
/-! ### sizes -/
/-- what is left of a bulk, behind rows of these lengths -/
def szD : List Nat → Int → Int
  | [], k => k
  | l :: ls, k => if k < (l : Int) then -1 else szD ls (k - l)
theorem szD_case : ∀ (ls : List Nat) (k : Int), 0 ≤ k → szD ls k = -1 ∨ (0 ≤ szD ls k ∧ szD ls k ≤ k ∧ ∀ (j : Nat) (l : Nat), ls[j]? = some l → (l : Int) ≤ k)
  | [], k, h => .inr ⟨h, Int.le_refl _, fun j l hj => by simp at hj⟩
  | l :: ls, k, h => by
    by_cases hk : k < (l : Int)
    · exact .inl (by rw [szD, if_pos hk])
    · rw [szD, if_neg hk]
      rcases szD_case ls (k - l) (by omega) with h1 | ⟨h1, h2, h3⟩
      · exact .inl h1
      · refine .inr ⟨h1, by omega, fun j l' hj => ?_⟩
        cases j with
        | zero => simp at hj; omega
        | succ j => have := h3 j l' (by simpa using hj); omega
theorem szD_step : ∀ (ls : List Nat) (k : Int) (j : Nat) (l : Nat), ls[j]? = some l → 0 ≤ szD (ls.take j) k → szD (ls.take (j + 1)) k = (if szD (ls.take j) k < (l : Int) then -1 else szD (ls.take j) k - l)
  | a :: ls, k, 0, l, h, _ => by simp at h; subst h; simp [szD]
  | a :: ls, k, j + 1, l, h, h0 => by
    rw [List.take_succ_cons, szD] at h0
    by_cases hk : k < (a : Int)
    · rw [if_pos hk] at h0; omega
    · rw [if_neg hk] at h0
      rw [List.take_succ_cons, szD, if_neg hk, List.take_succ_cons, szD, if_neg hk]
      exact szD_step ls _ j l (by simpa using h) h0
  | [], _, _, _, h, _ => by simp at h
theorem szD_stop : ∀ (ls : List Nat) (k : Int) (j : Nat), 0 ≤ k → szD (ls.take j) k = -1 → szD ls k = -1
  | [], k, j, h, h1 => by simp [szD] at h1; omega
  | a :: ls, k, 0, h, h1 => by simp [szD] at h1; omega
  | a :: ls, k, j + 1, h, h1 => by
    rw [List.take_succ_cons, szD] at h1
    by_cases hk : k < (a : Int)
    · rw [szD, if_pos hk]
    · rw [if_neg hk] at h1
      rw [szD, if_neg hk]
      exact szD_stop ls _ j (by omega) h1
/-- .. and of the slice itself -/
def szL (n : Nat) (ls : List Nat) (k : Int) : Int := if k < (n : Int) then -1 else szD ls (k - n)
theorem szL_case (n : Nat) (ls : List Nat) (k : Int) : szL n ls k = -1 ∨ (0 ≤ szL n ls k ∧ szL n ls k ≤ k ∧ (n : Int) ≤ k ∧ ∀ (j : Nat) (l : Nat), ls[j]? = some l → (l : Int) ≤ k) := by
  by_cases hk : k < (n : Int)
  · exact .inl (by rw [szL, if_pos hk])
  · rw [szL, if_neg hk]
    rcases szD_case ls (k - n) (by omega) with h1 | ⟨h1, h2, h3⟩
    · exact .inl h1
    · exact .inr ⟨h1, by omega, by omega, fun j l hj => by have := h3 j l hj; omega⟩

/-! ### the kinds of records -/
structure OpD where
  k : Int
  i : Int
  o : Int
  p : List Int
def opF (d : OpD) : List Fl := [.n d.k, .n d.i, .n d.o, .s d.p]
theorem opF_len (d : OpD) : (opF d).length = 4 := rfl
def SmO (ds : List OpD) : Prop := ∀ (j : Nat) (d : OpD), ds[j]? = some d → d.p.length ≤ 1048576
def rowF (d : List Int) : List Fl := [.s d]
theorem rowF_len (d : List Int) : (rowF d).length = 1 := rfl
def SmR (ds : List (List Int)) : Prop := ∀ (j : Nat) (d : List Int), ds[j]? = some d → d.length ≤ 1048576
structure PrD where
  x : List Int
  t : List Int
def prF (d : PrD) : List Fl := [.s d.x, .s d.t]
theorem prF_len (d : PrD) : (prF d).length = 2 := rfl
def SmP (ds : List PrD) : Prop := ∀ (j : Nat) (d : PrD), ds[j]? = some d → d.x.length ≤ 1048576 ∧ d.t.length ≤ 1048576
section
variable {w : World} {B n c : Nat} {A : Option Addr}
theorem RL.opAt {ds : List OpD} (h : RL 4 w B A n c (ds.flatMap opF)) {j : Nat} (hj : j < n) :
    ∃ b off d A' n' c', A = some ⟨b, off, none⟩ ∧ b < B ∧ ds[j]? = some d ∧ w.cell? ⟨b, off + j * 4, none⟩ = some (.int .i64 d.k) ∧ w.cell? ⟨b, off + j * 4 + 1, none⟩ = some (.int .i64 d.i) ∧
      w.cell? ⟨b, off + j * 4 + 2, none⟩ = some (.int .i64 d.o) ∧ w.cell? ⟨b, off + j * 4 + 3, none⟩ = some (.slice A' n' c') ∧ RI w B A' n' c' d.p := by
  have hl := h.row opF_len (by omega)
  obtain ⟨b, off, hA, hb, hc⟩ := h.2.2 (by omega)
  obtain ⟨d, hd⟩ : ∃ d, ds[j]? = some d := ⟨_, List.getElem?_eq_getElem (by omega)⟩
  have g := fun i hi => flat_get opF 4 opF_len ds j i d hd hi
  obtain ⟨v0, h0, r0⟩ := hc (j * 4 + 0) _ ((g 0 (by omega)).trans rfl)
  obtain ⟨v1, h1, r1⟩ := hc (j * 4 + 1) _ ((g 1 (by omega)).trans rfl)
  obtain ⟨v2, h2, r2⟩ := hc (j * 4 + 2) _ ((g 2 (by omega)).trans rfl)
  obtain ⟨v3, h3, r3⟩ := hc (j * 4 + 3) _ ((g 3 (by omega)).trans rfl)
  obtain rfl : v0 = _ := r0
  obtain rfl : v1 = _ := r1
  obtain rfl : v2 = _ := r2
  obtain ⟨A', n', c', rfl, hr⟩ : RV w B v3 d.p := r3
  exact ⟨b, off, d, A', n', c', hA, hb, hd, h0, by rw [Nat.add_assoc]; exact h1, by rw [Nat.add_assoc]; exact h2, by rw [Nat.add_assoc]; exact h3, hr⟩
theorem RL.rowAt {ds : List (List Int)} (h : RL 1 w B A n c (ds.flatMap rowF)) {j : Nat} (hj : j < n) :
    ∃ b off d A' n' c', A = some ⟨b, off, none⟩ ∧ b < B ∧ ds[j]? = some d ∧ w.cell? ⟨b, off + j, none⟩ = some (.slice A' n' c') ∧ RI w B A' n' c' d := by
  have hl := h.row rowF_len (by omega)
  obtain ⟨b, off, hA, hb, hc⟩ := h.2.2 (by omega)
  obtain ⟨d, hd⟩ : ∃ d, ds[j]? = some d := ⟨_, List.getElem?_eq_getElem (by omega)⟩
  have g := fun i hi => flat_get rowF 1 rowF_len ds j i d hd hi
  obtain ⟨v0, h0, r0⟩ := hc (j * 1 + 0) _ ((g 0 (by omega)).trans rfl)
  obtain ⟨A', n', c', rfl, hr⟩ : RV w B v0 d := r0
  exact ⟨b, off, d, A', n', c', hA, hb, hd, by rw [Nat.mul_one] at h0; exact h0, hr⟩
theorem RL.prAt {ds : List PrD} (h : RL 2 w B A n c (ds.flatMap prF)) {j : Nat} (hj : j < n) :
    ∃ b off d A' n' c' A'' n'' c'', A = some ⟨b, off, none⟩ ∧ b < B ∧ ds[j]? = some d ∧ w.cell? ⟨b, off + j * 2, none⟩ = some (.slice A' n' c') ∧ RI w B A' n' c' d.x ∧ w.cell? ⟨b, off + j * 2 + 1, none⟩ = some (.slice A'' n'' c'') ∧ RI w B A'' n'' c'' d.t := by
  have hl := h.row prF_len (by omega)
  obtain ⟨b, off, hA, hb, hc⟩ := h.2.2 (by omega)
  obtain ⟨d, hd⟩ : ∃ d, ds[j]? = some d := ⟨_, List.getElem?_eq_getElem (by omega)⟩
  have g := fun i hi => flat_get prF 2 prF_len ds j i d hd hi
  obtain ⟨v0, h0, r0⟩ := hc (j * 2 + 0) _ ((g 0 (by omega)).trans rfl)
  obtain ⟨v1, h1, r1⟩ := hc (j * 2 + 1) _ ((g 1 (by omega)).trans rfl)
  obtain ⟨A', n', c', rfl, hr⟩ : RV w B v0 d.x := r0
  obtain ⟨A'', n'', c'', rfl, hr'⟩ : RV w B v1 d.t := r1
  exact ⟨b, off, d, A', n', c', A'', n'', c'', hA, hb, hd, h0, hr, by rw [Nat.add_assoc]; exact h1, hr'⟩
end
end Go.Proofs.Ytehfglfbnjdcoaa
