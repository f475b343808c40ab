/-
  A slice of records of the call's own, beside one block that it does not touch: that block may be written.
-/
import Derived.Test.YtceeijbnhnpfgaaPush
namespace Go.Proofs.Ytceeijbnhnpfgaa
open Go.RowKit

theorem ownsRow_same {w : World} {lo size n : Nat} {e : TypeId} {v : Value} {xs ys : List Value} (h : w.ownsRow lo e size v n xs) (k : w.ownsRow lo e size v n ys) : xs = ys := by
  have h1 := h.1
  have k1 := k.1
  rcases h.2 with ⟨_, rfl⟩ | ⟨g, cap, cur, rfl, _⟩
  · simp at h1 k1; rw [h1, k1]
  · apply List.ext_getElem?
    intro j
    by_cases hj : j < n * size
    · rw [← h.cellAt j hj, ← k.cellAt j hj]
    · rw [List.getElem?_eq_none (by omega), List.getElem?_eq_none (by omega)]
/-- .. and nothing of it lies in block g -/
def OLx (e T m : TypeId) (w : World) (lo hi g : Nat) (v : Value) (n : Nat) (fs : List Fl) : Prop :=
  ∃ vs, w.ownsRow lo T m v n vs ∧ (∀ k, v.ownBlock = some k → k < hi) ∧ FOs e w lo hi v.ownBlock vs fs ∧ v.ownBlock ≠ some g ∧ ∀ u ∈ vs, u.ownBlock ≠ some g
section
variable {e T m : TypeId} {w w' : World} {lo hi hi' g n : Nat} {v : Value} {fs gs : List Fl}
theorem OLx.ol (h : OLx e T m w lo hi g v n fs) : OL e T m w lo hi v n fs := by
  obtain ⟨vs, h1, h2, h3, _⟩ := h
  exact ⟨vs, h1, h2, h3⟩
theorem OLx.onlyG (h : OLx e T m w lo hi g v n fs) (ho : Only (fun k => k = g) w w') : OLx e T m w' lo hi g v n fs := by
  obtain ⟨vs, ⟨hl, hc⟩, hhi, hf, h1, h2⟩ := h
  refine ⟨vs, ⟨hl, ?_⟩, hhi, ⟨hf.len, fun q u f hu hff => (hf.each q u f hu hff).only ho (fun k hk hkg => ?_), hf.apart, hf.off⟩, h1, h2⟩
  · rcases hc with hc | ⟨b, cap, cur, rfl, hg, hh, r⟩
    · exact .inl hc
    · have hlt : b < w.heap.size := (Array.getElem?_eq_some_iff.1 hh).1
      exact .inr ⟨b, cap, cur, rfl, hg, (ho.block b hlt (fun hb => h1 (by simp [Value.ownBlock]; exact hb))).trans hh, r⟩
  · exact h2 u (List.mem_of_getElem? hu) (by rw [hk, hkg])
theorem OLx.below (h : OLx e T m w lo hi g v n fs) (hb : Below w.heap.size w w') : OLx e T m w' lo hi g v n fs := by
  obtain ⟨vs, h1, h2, h3, h4, h5⟩ := h
  exact ⟨vs, ownsB h1 hb, h2, h3.only (p := fun _ => False) (Only.of_below hb) (fun _ _ _ h => h), h4, h5⟩
theorem OLx.more (h : OLx e T m w lo hi g v n fs) (hh : hi ≤ hi') : OLx e T m w lo hi' g v n fs := by
  obtain ⟨vs, h1, h2, h3, h4, h5⟩ := h
  exact ⟨vs, h1, fun k hk => Nat.lt_of_lt_of_le (h2 k hk) hh, h3.more (Nat.le_refl _) hh, h4, h5⟩
theorem OLx.of_empty (h : w.ownsRow lo T m v 0 []) (hhi : ∀ k, v.ownBlock = some k → k < hi) (hg : v.ownBlock ≠ some g) : OLx e T m w lo hi g v 0 [] :=
  ⟨[], h, hhi, ⟨rfl, fun p v f hv => by simp at hv, fun p q v u b _ hv => by simp at hv, fun p v b hv => by simp at hv⟩, hg, fun u hu => by simp at hu⟩
variable {P : Program} {ops : Array Oper} {rest : List Oper} {o : Oper} {a : Act} {Q : Exit → Act → World → Prop}
theorem wpList_pushX {mid : Nat} (w : World) (us : List Value) (gs : List Fl) (hgd : o.guard = none) (s x : Operand) (t : TypeId)
    (ho : o.op = .call { callee := .builtin .append, args := #[s, x], argTypes := #[t, t] })
    (e T m bytes : Nat) (z : Value) (ht : P.underlying t = some (.slice T)) (hinfo : (P.info? T).map (fun i => (i.zero, i.size, i.bytes)) = some (some z, m, bytes)) (hzs : z.cells.size = m) (hm0 : 0 < m) (hby : bytes ≤ 1024)
    (hs : a.eval s = v) (hO : OLx e T m w lo mid g v n fs) (hu : FOs e w mid w.heap.size none us gs) (hus : us.length = m) (hx : a.eval x = .slice (some ⟨w.heap.size, 0, none⟩) 1 1)
    (hlo : lo ≤ mid) (hmid : mid ≤ w.heap.size) (hn : n < 1073741824) (hg : g < mid)
    (h : ∀ A' c' w', OLx e T m w' lo w'.heap.size g (.slice A' (n + 1) c') (n + 1) (fs ++ gs) → Only (fun b => v.ownBlock = some b) w w' → wpList P ops Q rest (a.put o.dst (.slice A' (n + 1) c')) w') :
    wpList P ops Q (o :: rest) a (w.alloc (.cells us.toArray T)) := by
  obtain ⟨i, hi, hz, hsz, hb⟩ := info_parts hinfo
  obtain ⟨vs, hown, hhi, hf, hg1, hg2⟩ := hO
  have hel : ∀ (q : Nat) u, us[q]? = some u → ∃ f, FO e w mid w.heap.size u f := fun q u hq => by
    have hp := (List.getElem?_eq_some_iff.1 hq).1
    obtain ⟨f, hff⟩ : ∃ f, gs[q]? = some f := ⟨_, List.getElem?_eq_getElem (by rw [← hu.len]; exact hp)⟩
    exact ⟨f, hu.each q u f hq hff⟩
  have hone : ∀ u ∈ us, u.oneCell' = true := fun u hu' => by
    obtain ⟨p, hp, rfl⟩ := List.mem_iff_getElem.1 hu'
    obtain ⟨f, hff⟩ := hel p _ (List.getElem?_eq_getElem hp)
    exact hff.one
  refine wpList_append_own_at (w.alloc (.cells us.toArray T)) hgd s x t ho lo T i z m bytes ht hi hz hsz hb hzs hm0 v n vs hs (hown.alloc _) ⟨w.heap.size, 0, none⟩ 1 1 us hx (by rw [hus, Nat.one_mul])
    (by have := World.news_of_block (w := w.alloc (.cells us.toArray T)) (B := w.heap.size) (cs := us.toArray) (t := T) (fr := (0, 0)) (heap_alloc_new w _); simpa using this) hone ?_ ?_ ?_ (fun v' w' h1 h2 _ h4 => ?_)
  · simp only [maxLen]; omega
  · have : (n + 1) * bytes ≤ 1073741824 * 1024 := Nat.mul_le_mul (by omega) hby
    omega
  · simp; omega
  · have hgr := (World.grownBy_alloc w (.cells us.toArray T) v.ownBlock).trans h2
    have hL := OL.push (w := w) (w' := w') (k := 1) hhi hf hu hlo h1 hgr (by
      rcases h4 with h4 | h4
      · exact .inl h4
      · exact .inr ⟨_, h4, by simp, by simp⟩)
    obtain ⟨A', c', rfl⟩ := ownsRow_form h1
    obtain ⟨vs', k1, k2, k3⟩ := hL
    obtain rfl := ownsRow_same k1 h1
    refine h _ _ _ ⟨_, k1, k2, k3, ?_, fun u hu' => ?_⟩ (Only.of_grown hgr fun k hk => hk)
    · rcases h4 with h4 | h4
      · rw [h4]; exact hg1
      · rw [h4]; simp; omega
    · rcases List.mem_append.1 hu' with hu' | hu'
      · exact hg2 u hu'
      · obtain ⟨p, hp, rfl⟩ := List.mem_iff_getElem.1 hu'
        obtain ⟨f, hff⟩ := hel p _ (List.getElem?_eq_getElem hp)
        intro hc
        have := (hff.own hc).1
        omega
end
end Go.Proofs.Ytceeijbnhnpfgaa
