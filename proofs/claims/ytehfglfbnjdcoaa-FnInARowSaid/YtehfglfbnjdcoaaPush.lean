/-
  Appends onto what the call itself made: numbers, records; a copy of a slice of numbers.
-/
import Derived.Test.YtehfglfbnjdcoaaProg
import Derived.Test.YtehfglfbnjdcoaaRec
import Derived.Test.YtehfglfbnjdcoaaInts
import Derived.WalkKit
import Derived.Deep.AppendSrc
namespace Go.Proofs.Ytehfglfbnjdcoaa
open Go.RowKit
set_option maxRecDepth 100000

theorem FO.one {e : TypeId} {w : World} {lo hi : Nat} {v : Value} {f : Fl} (h : FO e w lo hi v f) : v.oneCell' = true := by
  cases f with
  | n x => obtain rfl : v = .int .i64 x := h; rfl
  | b x => obtain rfl : v = .bool x := h; rfl
  | s xs =>
    obtain ⟨A, c, rfl⟩ := ownsRow_form (show w.ownsRow lo e 1 v xs.length (ivs xs) from h.1)
    rfl
theorem Only.keepCell {w w' : World} {p : Nat → Prop} {b off : Nat} {x : Value} (ho : Only p w w') (hc : w.cell? ⟨b, off, none⟩ = some x) (hn : ¬ p b) : w'.cell? ⟨b, off, none⟩ = some x := by
  rw [ho.cell (World.block_lt_of_cell? w _ hc) hn]; exact hc
theorem FO.of_oi {e : TypeId} {w : World} {lo hi : Nat} {v : Value} {xs : List Int} (h : OI e w lo hi v xs) : FO e w lo hi v (.s xs) := h
theorem FOs.one {e : TypeId} {w : World} {lo hi : Nat} {u : Value} {f : Fl} (h : FO e w lo hi u f) : FOs e w lo hi none [u] [f] := by
  refine ⟨rfl, fun p v g hv hg => ?_, fun p q v z b hne hv hz _ => ?_, fun p v b _ _ => by simp⟩
  · cases p with
    | zero => simp at hv hg; subst hv; subst hg; exact h
    | succ p => simp at hv
  · cases p with
    | zero => cases q with
      | zero => exact absurd rfl hne
      | succ q => simp at hz
    | succ p => simp at hv
theorem RI.noneA {w : World} {B n c : Nat} {xs : List Int} (h : RI w B none n c xs) : n = 0 ∧ xs = [] := by
  have hn : n = 0 := by
    by_cases h0 : 0 < n
    · obtain ⟨b, off, hA, _⟩ := h.2.2 h0
      cases hA
    · omega
  exact ⟨hn, List.eq_nil_of_length_eq_zero (h.1.trans hn)⟩
theorem RI.news {w : World} {B n c : Nat} {xs : List Int} {A : Addr} (h : RI w B (some A) n c xs) : ∀ j u, (ivs xs)[j]? = some u → w.cell? (A.add j) = some u := by
  intro j u hj
  simp only [ivs, List.getElem?_map, Option.map_eq_some_iff] at hj
  obtain ⟨x, hx, rfl⟩ := hj
  have hlt := (List.getElem?_eq_some_iff.1 hx).1
  obtain ⟨b, off, hA, _, hc⟩ := h.2.2 (by rw [← h.1]; omega)
  have := hc j (by rw [← h.1]; exact hlt)
  obtain rfl : A = ⟨b, off, none⟩ := by simpa using hA
  rw [show (⟨b, off, none⟩ : Addr).add j = ⟨b, off + j, none⟩ from by unfold Addr.add; split <;> simp_all, this]
  simp [List.getD, hx]

section
variable {P : Program} {ops : Array Oper} {rest : List Oper} {o : Oper} {a : Act} {Q : Exit → Act → World → Prop}
/-- 'append([]int{}, xs...)' -/
theorem wpList_copy (w : World) (hgd : o.guard = none) (s x : Operand) (t : TypeId)
    (ho : o.op = .call { callee := .builtin .append, args := #[s, x], argTypes := #[t, t] })
    (e : TypeId) (z : Value) (ht : P.underlying t = some (.slice e)) (hinfo : (P.info? e).map (fun i => (i.zero, i.size, i.bytes)) = some (some z, 1, 8)) (hzs : z.cells.size = 1)
    {B n c : Nat} {A : Option Addr} {xs : List Int} (hs : a.eval s = .slice (some ⟨w.heap.size, 0, none⟩) 0 0) (hx : a.eval x = .slice A n c) (hR : RI w B A n c xs) (hB : B ≤ w.heap.size) (hn : n ≤ 1048576)
    (h : ∀ A' n' c' w', OI e w' w.heap.size w'.heap.size (.slice A' n' c') xs → Below w.heap.size w w' → wpList P ops Q rest (a.put o.dst (.slice A' n' c')) w') :
    wpList P ops Q (o :: rest) a (w.alloc (.cells #[] e)) := by
  obtain ⟨i, hi, hz, hsz, hb⟩ := info_parts hinfo
  have hbl : Below w.heap.size w (w.alloc (.cells #[] e)) := (Below.refl _ _).alloc (Nat.le_refl _) _
  have hR' : RI (w.alloc (.cells #[] e)) B A n c xs := hR.below (hbl.mono hB)
  have hown : (w.alloc (.cells #[] e)).ownsRow w.heap.size e 1 (.slice (some ⟨w.heap.size, 0, none⟩) 0 0) 0 [] := World.ownsRow_lit w #[] 0 (Nat.le_refl _) (by decide) rfl
  cases A with
  | none =>
    obtain ⟨rfl, rfl⟩ := hR.noneA
    refine wpList_plain hgd fun K hK => ?_
    have hr := run_append_room_src (P := P) (w.alloc (.cells #[] e)) t t o.type e i ht hi w.heap.size 0 0 0 (.slice none 0 c) 0 [] (Src.ofNil _ ht c) (by omega) (fun j hj => absurd hj (by simp)) (fun j hj => absurd hj (by simp))
    unfold Oper.wp execOp
    simp only [ho, resolve, invoke, builtin, Sem.run_bind, Sem.run_pure, Result.andThen_ok, List.map_toArray, List.map_cons, List.map_nil, hs, hx, hr]
    exact hK _ _ (h _ _ _ _ (OI.of_own hown) hbl)
  | some A =>
    refine wpList_append_own_at (w.alloc (.cells #[] e)) hgd s x t ho w.heap.size e i z 1 8 ht hi hz hsz hb hzs (by omega) _ 0 [] hs hown A n c (ivs xs) hx (by simp [ivs, hR.1]) hR'.news (fun u hu => ?_) ?_ ?_ ?_ (fun v' w' h1 h2 _ h4 => ?_)
    · simp only [ivs, List.mem_map] at hu; obtain ⟨_, _, rfl⟩ := hu; rfl
    · simp only [maxLen]; omega
    · omega
    · simp
    · obtain ⟨A', c', rfl⟩ := ownsRow_form h1
      refine h _ _ _ _ (OI.of_own (by simpa using h1)) (hbl.grown h2 (by simp) (fun q hq => ?_))
      simp [Value.ownBlock] at hq; omega
/-- 'append(v, x)', a number, onto a row of the call's own -/
theorem wpList_pushI (w : World) (y : Int) (hgd : o.guard = none) (s x : Operand) (t : TypeId)
    (ho : o.op = .call { callee := .builtin .append, args := #[s, x], argTypes := #[t, t] })
    (e : TypeId) (z : Value) (ht : P.underlying t = some (.slice e)) (hinfo : (P.info? e).map (fun i => (i.zero, i.size, i.bytes)) = some (some z, 1, 8)) (hzs : z.cells.size = 1)
    {lo hi : Nat} {v : Value} {xs : List Int} (hs : a.eval s = v) (hO : OI e w lo hi v xs) (hx : a.eval x = .slice (some ⟨w.heap.size, 0, none⟩) 1 1) (hlo : lo ≤ w.heap.size) (hn : xs.length < 1073741824)
    (h : ∀ A' n' c' w', OI e w' lo w'.heap.size (.slice A' n' c') (xs ++ [y]) → Only (fun b => v.ownBlock = some b) w w' → wpList P ops Q rest (a.put o.dst (.slice A' n' c')) w') :
    wpList P ops Q (o :: rest) a (w.alloc (.cells #[.int .i64 y] e)) := by
  refine wpList_push1 w (iv y) hgd s x t ho lo e z 8 ht hinfo hzs v xs.length (ivs xs) hs hO.1 rfl hx (by omega) (by omega) hlo (fun v' w' h1 h2 _ => ?_)
  obtain ⟨A', c', rfl⟩ := ownsRow_form h1
  exact h _ _ _ _ (OI.of_own (n := xs.length + 1) (by rw [show ivs (xs ++ [y]) = ivs xs ++ [iv y] from by simp [ivs]]; exact h1)) (Only.of_grown h2 fun k hk => hk)
/-- 'append(v, r)', a record, onto a slice of records of the call's own -/
theorem wpList_pushL (w : World) (us : List Value) (gs : List Fl) (hgd : o.guard = none) (s x : Operand) (t : TypeId)
    (ho : o.op = .call { callee := .builtin .append, args := #[s, x], argTypes := #[t, t] })
    (e T m bytes : Nat) (z : Value) (ht : P.underlying t = some (.slice T)) (hinfo : (P.info? T).map (fun i => (i.zero, i.size, i.bytes)) = some (some z, m, bytes)) (hzs : z.cells.size = m) (hm0 : 0 < m) (hby : bytes ≤ 1024)
    {lo mid n : Nat} {v : Value} {fs : List Fl} (hs : a.eval s = v) (hO : OL e T m w lo mid v n fs) (hu : FOs e w mid w.heap.size none us gs) (hus : us.length = m) (hx : a.eval x = .slice (some ⟨w.heap.size, 0, none⟩) 1 1)
    (hlo : lo ≤ mid) (hmid : mid ≤ w.heap.size) (hn : n < 1073741824)
    (h : ∀ A' c' w', OL e T m w' lo w'.heap.size (.slice A' (n + 1) c') (n + 1) (fs ++ gs) → Only (fun b => v.ownBlock = some b) w w' → (∀ g, (Value.slice A' (n + 1) c').ownBlock = some g → v.ownBlock = some g ∨ w.heap.size ≤ g) → wpList P ops Q rest (a.put o.dst (.slice A' (n + 1) c')) w') :
    wpList P ops Q (o :: rest) a (w.alloc (.cells us.toArray T)) := by
  obtain ⟨i, hi, hz, hsz, hb⟩ := info_parts hinfo
  obtain ⟨vs, hown, hhi, hf⟩ := hO
  have hone : ∀ u ∈ us, u.oneCell' = true := fun u hu' => by
    obtain ⟨p, hp, rfl⟩ := List.mem_iff_getElem.1 hu'
    have hp2 : p < gs.length := by rw [← hu.len]; exact hp
    exact (hu.each p _ _ (List.getElem?_eq_getElem hp) (List.getElem?_eq_getElem hp2)).one
  refine wpList_append_own_at (w.alloc (.cells us.toArray T)) hgd s x t ho lo T i z m bytes ht hi hz hsz hb hzs hm0 v n vs hs (hown.alloc _) ⟨w.heap.size, 0, none⟩ 1 1 us hx (by rw [hus, Nat.one_mul])
    (by have := World.news_of_block (w := w.alloc (.cells us.toArray T)) (B := w.heap.size) (cs := us.toArray) (t := T) (fr := (0, 0)) (heap_alloc_new w _); simpa using this) hone ?_ ?_ ?_ (fun v' w' h1 h2 _ h4 => ?_)
  · simp only [maxLen]; omega
  · have : (n + 1) * bytes ≤ 1073741824 * 1024 := Nat.mul_le_mul (by omega) hby
    omega
  · simp; omega
  · have hg := (World.grownBy_alloc w (.cells us.toArray T) v.ownBlock).trans h2
    have hL := OL.push (w := w) (w' := w') (k := 1) hhi hf hu hlo h1 hg (by
      rcases h4 with h4 | h4
      · exact .inl h4
      · exact .inr ⟨_, h4, by simp, by simp⟩)
    obtain ⟨A', c', rfl⟩ := ownsRow_form h1
    refine h _ _ _ hL (Only.of_grown hg fun k hk => hk) (fun g hgg => ?_)
    rcases h4 with h4 | h4
    · exact .inl (h4 ▸ hgg)
    · rw [hgg] at h4
      simp at h4
      exact .inr (by omega)
theorem OL.nil (e T m : TypeId) (w : World) (lo hi : Nat) : OL e T m w lo hi (.slice none 0 0) 0 [] :=
  ⟨[], World.ownsRow_nil _ _ _ _, fun g hg => by simp [Value.ownBlock] at hg, ⟨rfl, fun p v f hv => by simp at hv, fun p q v u b _ hv => by simp at hv, fun p v b hv => by simp at hv⟩⟩
theorem OL.empty (e T m : TypeId) (w : World) : OL e T m (w.alloc (.cells #[] T)) w.heap.size (w.heap.size + 1) (.slice (some ⟨w.heap.size, 0, none⟩) 0 0) 0 [] :=
  ⟨[], World.ownsRow_lit w #[] 0 (Nat.le_refl _) (by decide) (by simp), fun g hg => by simp [Value.ownBlock] at hg; omega, ⟨rfl, fun p v f hv => by simp at hv, fun p q v u b _ hv => by simp at hv, fun p v b hv => by simp at hv⟩⟩
theorem OL.lit1 {e T m : TypeId} {w : World} {us : List Value} {gs : List Fl} {lo hi : Nat} (hu : FOs e w lo hi none us gs) (hlo : lo ≤ w.heap.size) (hhi : hi ≤ w.heap.size) (hus : us.length = m) : OL e T m (w.alloc (.cells us.toArray T)) lo (w.heap.size + 1) (.slice (some ⟨w.heap.size, 0, none⟩) 1 1) 1 gs := by
  have hb : Below w.heap.size w (w.alloc (.cells us.toArray T)) := (Below.refl _ _).alloc (Nat.le_refl _) _
  refine ⟨us, World.ownsRow_lit w us.toArray 1 hlo (by decide) (by simp [hus]), fun g hg => by simp [Value.ownBlock] at hg; omega, ⟨hu.len, fun p v f hv hf => ?_, hu.apart, fun p v b hv hb' => ?_⟩⟩
  · exact ((hu.each p v f hv hf).only (p := fun _ => False) (Only.of_below hb) (fun _ _ h => h)).more (Nat.le_refl _) (by omega)
  · obtain ⟨f, hf⟩ : ∃ f, gs[p]? = some f := ⟨_, List.getElem?_eq_getElem (by rw [← hu.len]; exact (List.getElem?_eq_some_iff.1 hv).1)⟩
    have := ((hu.each p v f hv hf).own hb').2
    simp [Value.ownBlock]; omega
end

theorem impl_copyInts {B n c : Nat} {A : Option Addr} {xs : List Int} (w : World) (h : RI w B A n c xs) (hB : B ≤ w.heap.size) (hn : n ≤ 1048576) :
    Calls Try.prog 103 #[.slice A n c] w (Gives (NI w xs)) := by
  have HR := hide h
  clear h
  go_enter Try.func103, Try.ntmps103
  go_wp2_with (at_builtin; refine wpList_copy w rfl (.tmp 3) (.tmp 4) _ rfl 3 _ Try.underlying25 int_info rfl rfl rfl HR.out hB hn ?_; intro A' n' c' w' hO hb)
  go_ret
  exact ⟨_, rfl, hO, hb⟩
end Go.Proofs.Ytehfglfbnjdcoaa
