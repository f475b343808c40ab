/-
  Words for memory, more: what reads as numbers, what is owned, what a step may have turned.
-/
import Derived.Test.YtehfglfbnjdcoaaMem
import Derived.Test.YtehfglfbnjdcoaaPlainA
import Derived.Deep.Draws
namespace Go.Proofs.Ytehfglfbnjdcoaa
open Go.RowKit
set_option maxRecDepth 100000

abbrev iv (n : Int) : Value := .int .i64 n
abbrev ivs (xs : List Int) : List Value := xs.map (.int .i64)

/-- Of the blocks that were there only those with 'p' may have turned. -/
structure Only (p : Nat → Prop) (w w' : World) : Prop where
  os : w'.os = w.os
  tape : w'.tape = w.tape
  output : w'.output = w.output
  size : w.heap.size ≤ w'.heap.size
  block : ∀ k, k < w.heap.size → ¬ p k → w'.heap[k]? = w.heap[k]?
section
variable {p q : Nat → Prop} {w w' w'' : World} {B : Nat}
theorem Only.refl (p : Nat → Prop) (w : World) : Only p w w := ⟨rfl, rfl, rfl, Nat.le_refl _, fun _ _ _ => rfl⟩
theorem Only.of_below (h : Below w.heap.size w w') : Only p w w' := ⟨h.os, h.tape, h.output, h.size, fun k hk _ => h.block k hk⟩
theorem Only.trans (h : Only p w w') (k : Only p w' w'') : Only p w w'' :=
  ⟨k.os.trans h.os, k.tape.trans h.tape, k.output.trans h.output, Nat.le_trans h.size k.size, fun i hi hn => (k.block i (Nat.lt_of_lt_of_le hi h.size) hn).trans (h.block i hi hn)⟩
theorem Only.mono (h : Only p w w') (hpq : ∀ k, p k → q k) : Only q w w' := ⟨h.os, h.tape, h.output, h.size, fun k hk hn => h.block k hk (fun hp => hn (hpq k hp))⟩
theorem Only.below (h : Only p w w') (hB : B ≤ w.heap.size) (hp : ∀ k, k < B → ¬ p k) : Below B w w' := ⟨h.os, h.tape, h.output, h.size, fun k hk => h.block k (by omega) (hp k hk)⟩
theorem Only.of_grown {row : Option Nat} (h : w.grownBy w' row) (hr : ∀ k, row = some k → p k) : Only p w w' :=
  ⟨h.os, h.tape, h.output, h.size, fun k hk hn => h.block k hk (fun e => hn (hr k e.symm))⟩
theorem Only.drew (h : Only p w w') : Only p w w'.drew := ⟨h.os, h.tape, h.output, h.size, h.block⟩
theorem Only.drewN (h : Only p w w') (n : Nat) : Only p w (w'.drewN n) := ⟨h.os, h.tape, h.output, h.size, h.block⟩
theorem Only.cell (h : Only p w w') {a : Addr} (ha : a.block < w.heap.size) (hn : ¬ p a.block) : w'.cell? a = w.cell? a := World.cell?_of_block (w := w) (h.block _ ha hn)
theorem below_drewN (h : Below B w w') (n : Nat) : Below B w (w'.drewN n) := ⟨h.os, h.tape, h.output, h.size, h.block⟩
theorem below_now (h : Below B w w') (hB : w.heap.size ≤ B) : Below w.heap.size w w' := h.mono hB
/-- two steps one behind the other, each of which leaves all that was there -/
theorem below2 {w w1 w2 : World} (h : Below w.heap.size w w1) (k : Below w1.heap.size w1 w2) : Below w.heap.size w w2 := h.trans (k.mono h.size)
end

/-- the slice value '.slice A n c' reads as the numbers xs; its cells lie below block B -/
def RI (w : World) (B : Nat) (A : Option Addr) (n c : Nat) (xs : List Int) : Prop :=
  xs.length = n ∧ n ≤ c ∧ (0 < n → ∃ b off, A = some ⟨b, off, none⟩ ∧ b < B ∧ ∀ j, j < n → w.cell? ⟨b, off + j, none⟩ = some (.int .i64 (xs.getD j 0)))
/-- .. for a value -/
def RV (w : World) (B : Nat) (v : Value) (xs : List Int) : Prop := ∃ A n c, v = .slice A n c ∧ RI w B A n c xs
section
variable {w w' : World} {B B' n c : Nat} {A : Option Addr} {xs : List Int} {v : Value}
theorem RI.len (h : RI w B A n c xs) : xs.length = n := h.1
theorem RI.at_ (h : RI w B A n c xs) {k : Nat} (hk : k < n) : ∃ b off, A = some ⟨b, off, none⟩ ∧ b < B ∧ w.cell? ⟨b, off + k, none⟩ = some (.int .i64 (xs.getD k 0)) := by
  obtain ⟨b, off, hA, hb, hc⟩ := h.2.2 (by omega)
  exact ⟨b, off, hA, hb, hc k hk⟩
theorem RI.keep (h : RI w B A n c xs) (hk : ∀ a : Addr, a.block < B → w'.cell? a = w.cell? a) : RI w' B A n c xs := by
  refine ⟨h.1, h.2.1, fun hn => ?_⟩
  obtain ⟨b, off, hA, hb, hc⟩ := h.2.2 hn
  exact ⟨b, off, hA, hb, fun j hj => (hk _ hb).trans (hc j hj)⟩
theorem RI.more (h : RI w B A n c xs) (hB : B ≤ B') : RI w B' A n c xs := by
  refine ⟨h.1, h.2.1, fun hn => ?_⟩
  obtain ⟨b, off, hA, hb, hc⟩ := h.2.2 hn
  exact ⟨b, off, hA, by omega, hc⟩
theorem RI.below (h : RI w B A n c xs) (hb : Below B w w') : RI w' B A n c xs := h.keep fun _ ha => hb.cell ha
theorem RI.drewN (h : RI w B A n c xs) (k : Nat) : RI (w.drewN k) B A n c xs := h
theorem RV.keep (h : RV w B v xs) (hk : ∀ a : Addr, a.block < B → w'.cell? a = w.cell? a) : RV w' B v xs := by
  obtain ⟨A, n, c, hv, hr⟩ := h; exact ⟨A, n, c, hv, hr.keep hk⟩
theorem RV.below (h : RV w B v xs) (hb : Below B w w') : RV w' B v xs := h.keep fun _ ha => hb.cell ha
theorem RV.more (h : RV w B v xs) (hB : B ≤ B') : RV w B' v xs := by
  obtain ⟨A, n, c, hv, hr⟩ := h; exact ⟨A, n, c, hv, hr.more hB⟩
theorem RV.nil (w : World) (B : Nat) : RV w B (.slice none 0 0) [] := ⟨none, 0, 0, rfl, rfl, Nat.le_refl _, fun h => absurd h (by omega)⟩
end

/-- the slice value v owns the numbers xs: its block lies in [lo, hi) -/
def OI (e : TypeId) (w : World) (lo hi : Nat) (v : Value) (xs : List Int) : Prop := w.ownsRow lo e 1 v xs.length (ivs xs) ∧ ∀ g, v.ownBlock = some g → g < hi
section
variable {e : TypeId} {w w' : World} {lo hi lo' hi' : Nat} {v : Value} {xs : List Int} {p : Nat → Prop}
theorem OI.rv (h : OI e w lo hi v xs) : RV w hi v xs := by
  obtain ⟨⟨hl, hc⟩, hhi⟩ := h
  rcases hc with ⟨rfl, hn⟩ | ⟨g, cap, cur, rfl, hg, hh, hn, hm, hs, ht⟩
  · exact ⟨none, 0, 0, rfl, hn, Nat.le_refl _, fun h => absurd h (by omega)⟩
  · refine ⟨_, _, _, rfl, rfl, hn, fun _ => ⟨g, 0, rfl, hhi g rfl, fun j hj => ?_⟩⟩
    have ho : w.ownsRow lo e 1 (.slice (some ⟨g, 0, none⟩) xs.length cap) xs.length (ivs xs) := ⟨hl, .inr ⟨g, cap, cur, rfl, hg, hh, hn, hm, hs, ht⟩⟩
    rw [Nat.zero_add, ho.cellAt j (by omega)]
    simp [List.getD, List.getElem?_eq_getElem hj]
theorem OI.only (h : OI e w lo hi v xs) (ho : Only p w w') (hp : ∀ k, lo ≤ k → k < hi → ¬ p k) : OI e w' lo hi v xs := by
  obtain ⟨⟨hl, hc⟩, hhi⟩ := h
  refine ⟨⟨hl, ?_⟩, hhi⟩
  rcases hc with hc | ⟨g, cap, cur, rfl, hg, hh, r⟩
  · exact .inl hc
  · have hlt : g < w.heap.size := (Array.getElem?_eq_some_iff.1 hh).1
    exact .inr ⟨g, cap, cur, rfl, hg, (ho.block g hlt (hp g hg (hhi g rfl))).trans hh, r⟩
theorem OI.below (h : OI e w lo hi v xs) (hb : Below w.heap.size w w') : OI e w' lo hi v xs := h.only (p := fun _ => False) (Only.of_below hb) (fun _ _ _ h => h)
theorem OI.hi_le (h : OI e w lo hi v xs) : OI e w lo w.heap.size v xs := ⟨h.1, fun g hg => (h.1.lt g hg).2⟩
theorem OI.of_own {n : Nat} (h : w.ownsRow lo e 1 v n (ivs xs)) : OI e w lo w.heap.size v xs := by
  have hn : n = xs.length := by have := h.1; simp at this; omega
  subst hn
  exact ⟨h, fun g hg => (h.lt g hg).2⟩
theorem OI.more (h : OI e w lo hi v xs) (h1 : lo' ≤ lo) (h2 : hi ≤ hi') : OI e w lo' hi' v xs := by
  obtain ⟨⟨hl, hc⟩, hhi⟩ := h
  refine ⟨⟨hl, ?_⟩, fun g hg => Nat.lt_of_lt_of_le (hhi g hg) h2⟩
  rcases hc with hc | ⟨g, cap, cur, rfl, hg, r⟩
  · exact .inl hc
  · exact .inr ⟨g, cap, cur, rfl, by omega, r⟩
theorem OI.nil (e : TypeId) (w : World) (lo hi : Nat) : OI e w lo hi (.slice none 0 0) [] := ⟨World.ownsRow_nil _ _ _ _, fun g hg => by simp [Value.ownBlock] at hg⟩
end

/-- a call that hands back a value of which Q speaks -/
def Gives (Q : Value → World → Prop) (e : Ending) (w' : World) : Prop := ∃ v, e = .returned v ∧ Q v w'
/-- .. two values: numbers, and a bool -/
def GivesB (b : Bool) (Q : Value → World → Prop) (e : Ending) (w' : World) : Prop := ∃ v, e = .returned (.tuple #[v, .bool b]) ∧ Q v w'
/-- nothing that was there has turned; v owns the numbers xs in new memory -/
def NewI (e : TypeId) (w : World) (xs : List Int) (v : Value) (w' : World) : Prop := OI e w' w.heap.size w'.heap.size v xs ∧ Below w.heap.size w w'

theorem set_take (xs : List Int) (k n : Nat) (hn : xs.length = n) (hk : k < n) :
    (ivs (xs.take k ++ List.replicate (n - k) 0)).set k (iv (xs.getD k 0)) = ivs (xs.take (k + 1) ++ List.replicate (n - (k + 1)) 0) := by
  simp only [ivs, iv]
  rw [← List.map_set]
  congr 1
  have h1 : (xs.take k).length = k := by rw [List.length_take]; omega
  rw [List.set_append_right _ _ (by omega), h1, Nat.sub_self, show n - k = (n - (k + 1)) + 1 from by omega, List.replicate_succ, List.set_cons_zero, List.take_succ_eq_append_getElem (by omega), List.append_assoc]
  simp [List.getD, List.getElem?_eq_getElem (show k < xs.length by omega)]
theorem take_all (xs : List Int) (n k : Nat) (hn : xs.length = n) (hk : n ≤ k) : xs.take k ++ List.replicate (n - k) 0 = xs := by
  rw [List.take_of_length_le (by omega), show n - k = 0 from by omega]; simp
def marks (k : Int) : Nat → List Int
  | 0 => []
  | n + 1 => k :: marks (k + 1) n
theorem marks_len : ∀ (n : Nat) (k : Int), (marks k n).length = n
  | 0, _ => rfl
  | n + 1, k => by rw [marks, List.length_cons, marks_len n]
theorem marks_get : ∀ (n : Nat) (k : Int) (j : Nat), j < n → (marks k n).getD j 0 = k + j
  | n + 1, k, 0, _ => by simp [marks]
  | n + 1, k, j + 1, h => by
    rw [marks, List.getD_cons_succ, marks_get n (k + 1) j (by omega)]; omega
theorem marks_snoc : ∀ (n : Nat) (k : Int), marks k (n + 1) = marks k n ++ [k + n]
  | 0, k => by simp [marks]
  | n + 1, k => by rw [marks, marks_snoc n, marks, List.cons_append]; simp; omega
theorem gives {Q : Value → World → Prop} {v : Value} {w' : World} (h : Q v w') : Gives Q (.returned v) w' := ⟨v, rfl, h⟩
theorem givesB {Q : Value → World → Prop} {v : Value} {w' : World} {b b' : Bool} (hb : b = b') (h : Q v w') : GivesB b' Q (.returned (.tuple #[v, .bool b])) w' := ⟨v, by rw [hb], h⟩
/-- a callee that leaves the world alone, called in a region that draws its order -/
theorem quietL {P : Program} {f : FuncId} {args : Array Value} {w : World} {n : Nat} {v : Value}
    (h : Calls P f args (w.drewN n) fun e w' => e = .returned v ∧ w.drewN n = w') : Calls P f args (w.drewN n) fun e w'' => e = .returned v ∧ ∃ m, w'' = w.drewN m :=
  h.mono fun _ _ hh => ⟨hh.1, n, hh.2.symm⟩
theorem NewI.nil {e : TypeId} {w : World} {xs : List Int} (h : xs = []) : NewI e w xs (.slice none 0 0) w := by subst h; exact ⟨OI.nil _ _ _ _, Below.refl _ _⟩
theorem NewI.own {e : TypeId} {w w' : World} {v : Value} {n : Nat} {xs ys : List Int} (h : w'.ownsRow w.heap.size e 1 v n (ivs xs)) (hb : Below w.heap.size w w') (hx : xs = ys) : NewI e w ys v w' := by subst hx; exact ⟨OI.of_own h, hb⟩
theorem RI.cellIn {w wr : World} {B C : Nat} {b off : Nat} {k : Nat} {x : Value} (hc : w.cell? ⟨b, off + k, none⟩ = some x) (hb : Below C w wr) (h1 : b < B) (h2 : B ≤ C) : wr.cell? ⟨b, off + k, none⟩ = some x :=
  (hb.cell (show (⟨b, off + k, none⟩ : Addr).block < C from by show b < C; omega)).trans hc
/-- .. where the world has drawn before -/
theorem quietL2 {P : Program} {f : FuncId} {args : Array Value} {w : World} {a n : Nat} {v : Value}
    (h : Calls P f args (w.drewN (a + n)) fun e w' => e = .returned v ∧ w.drewN (a + n) = w') : Calls P f args (w.drewN (a + n)) fun e w'' => e = .returned v ∧ ∃ m, w'' = w.drewN (a + m) :=
  h.mono fun _ _ hh => ⟨hh.1, n, hh.2.symm⟩
section
variable {e e' : TypeId} {w w' : World} {lo hi lo' hi' n c : Nat} {A : Option Addr} {v u : Value} {xs ys : List Int}
theorem OI.ri (h : OI e w lo hi (.slice A n c) xs) : RI w hi A n c xs := by
  obtain ⟨A', n', c', hv, hr⟩ := h.rv
  injection hv with h1 h2 h3
  subst h1; subst h2; subst h3
  exact hr
/-- marks on another thing, whose blocks lie elsewhere -/
theorem OI.far (h : OI e w lo hi u xs) (hv : OI e' w lo' hi' v ys) (ho : Only (fun b => v.ownBlock = some b) w w') (hd : hi ≤ lo' ∨ hi' ≤ lo) : OI e w' lo hi u xs := by
  refine h.only ho (fun k h1 h2 h3 => ?_)
  have h4 := (hv.1.lt k h3).1
  have h5 := hv.2 k h3
  omega
theorem OI.only_below (hv : OI e' w lo' hi' v ys) (ho : Only (fun b => v.ownBlock = some b) w w') {B : Nat} (hB : B ≤ w.heap.size) (h : B ≤ lo') : Below B w w' :=
  ho.below hB (fun k hk h3 => by have := (hv.1.lt k h3).1; omega)
theorem OI.lo_le (h : OI e w lo hi v xs) (hl : lo' ≤ lo) : OI e w lo' hi v xs := h.more hl (Nat.le_refl _)
end
theorem cellB {w w' : World} {a : Addr} {v : Value} (hb : Below w.heap.size w w') (hc : w.cell? a = some v) : w'.cell? a = some v := (hb.cell (World.block_lt_of_cell? w a hc)).trans hc
theorem ownsB {w w' : World} {base : Nat} {e : TypeId} {size n : Nat} {v : Value} {xs : List Value} (h : w.ownsRow base e size v n xs) (hb : Below w.heap.size w w') : w'.ownsRow base e size v n xs := by
  refine ⟨h.1, ?_⟩
  rcases h.2 with hc | ⟨g, cap, cur, hv, hg, hh, r⟩
  · exact .inl hc
  · exact .inr ⟨g, cap, cur, hv, hg, (hb.block g (Array.getElem?_eq_some_iff.1 hh).1).trans hh, r⟩
theorem ownsLo {w : World} {base base' : Nat} {e : TypeId} {size n : Nat} {v : Value} {xs : List Value} (h : w.ownsRow base e size v n xs) (hl : base' ≤ base) : w.ownsRow base' e size v n xs := by
  refine ⟨h.1, ?_⟩
  rcases h.2 with hc | ⟨g, cap, cur, hv, hg, r⟩
  · exact .inl hc
  · exact .inr ⟨g, cap, cur, hv, by omega, r⟩
end Go.Proofs.Ytehfglfbnjdcoaa
