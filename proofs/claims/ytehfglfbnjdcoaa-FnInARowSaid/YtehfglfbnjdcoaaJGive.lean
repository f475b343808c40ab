/-
  Joined: GiveG, GiveR.
-/
import Derived.Test.YtehfglfbnjdcoaaGrads
import Derived.Test.YtehfglfbnjdcoaaPush
import Derived.Test.YtehfglfbnjdcoaaJPlain
import Derived.Deep.RegionLaw
namespace Go.Proofs.Ytehfglfbnjdcoaa
open Go.RowKit
set_option maxRecDepth 100000
set_option maxRecDepth 100000

/-- gradients in new memory; nothing that was there has turned -/
abbrev GiveG (w : World) (g : GrD) (e : Ending) (w' : World) : Prop :=
  ∃ A c, e = .returned (Grv A g.rows.length c g.loss g.sat) ∧ OwRows w' w.heap.size w'.heap.size (.slice A g.rows.length c) g.rows.length (g.rows.flatMap rowF) ∧ Below w.heap.size w w'
theorem giveG {w w' : World} {g : GrD} {A : Option Addr} {n c : Nat} {l : Int} {s : Bool} {e : Ending} (hn : g.rows.length = n) (hl : g.loss = l) (hs : g.sat = s) (he : e = .returned (Grv A n c l s))
    (ho : OwRows w' w.heap.size w'.heap.size (.slice A n c) n (g.rows.flatMap rowF)) (hb : Below w.heap.size w w') : GiveG w g e w' := by
  subst hn; subst hl; subst hs
  exact ⟨A, c, he, ho, hb⟩
theorem RI.drew {w : World} {B n c : Nat} {A : Option Addr} {xs : List Int} (h : RI w B A n c xs) : RI w.drew B A n c xs := h
theorem zip_step {α β γ : Type} (f : α → β → γ) {xs : List α} {ys : List β} {k : Nat} {x : α} {y : β} (hx : xs[k]? = some x) (hy : ys[k]? = some y) : (List.zipWith f xs ys).take (k + 1) = (List.zipWith f xs ys).take k ++ [f x y] := by
  have h : (List.zipWith f xs ys)[k]? = some (f x y) := by rw [List.getElem?_zipWith, hx, hy]
  obtain ⟨hk, he⟩ := List.getElem?_eq_some_iff.1 h
  rw [List.take_succ_eq_append_getElem hk, he]
theorem any_snoc (bs : List Bool) (b : Bool) : (bs ++ [b]).any id = (bs.any id || b) := by simp
theorem get_some {xs : List Int} {k : Nat} (h : k < xs.length) : xs[k]? = some (xs.getD k 0) := by simp [List.getD, List.getElem?_eq_getElem h]
theorem flat_snoc (zs : List (List Int)) (z : List Int) : (zs ++ [z]).flatMap rowF = zs.flatMap rowF ++ [.s z] := by simp [rowF]
theorem OI.made (w : World) (n : Nat) (hn : n ≤ 1048576) : OI 3 (w.alloc (.cells (madeCells #[.int .i64 0] n) 3)) w.heap.size (w.heap.size + 1) (.slice (some ⟨w.heap.size, 0, none⟩) n n) (List.replicate n 0) := by
  have := World.ownsRow_lit (base := w.heap.size) (e := 3) (size := 1) w (madeCells #[.int .i64 0] n) n (Nat.le_refl _) (by simp only [maxLen]; omega) (by simp [madeCells])
  rw [toList_madeCells_one] at this
  exact ⟨by simpa [ivs] using this, fun g hg => by simp [Value.ownBlock] at hg; omega⟩
section
variable {P : Program} {ops : Array Oper} {o : Oper} {a : Act} {K : Act → World → Prop} {Q : Exit → Act → World → Prop} {E : Prop}
/-- 'append(v, r)', a record, onto a slice of records of the call's own: as a step of a region that draws its order -/
theorem step_pushL (w : World) (us : List Value) (gs : List Fl) (hgd : o.guard = none) (s x : Operand) (t : TypeId)
    (ho : o.op = .call { callee := .builtin .append, args := #[s, x], argTypes := #[t, t] })
    (e T m bytes : Nat) (z : Value) (ht : P.underlying t = some (.slice T)) (hinfo : (P.info? T).map (fun i => (i.zero, i.size, i.bytes)) = some (some z, m, bytes)) (hzs : z.cells.size = m) (hm0 : 0 < m) (hby : bytes ≤ 1024)
    {lo mid n : Nat} {v : Value} {fs : List Fl} (hs : a.eval s = v) (hO : OL e T m w lo mid v n fs) (hu : FOs e w mid w.heap.size none us gs) (hus : us.length = m) (hx : a.eval x = .slice (some ⟨w.heap.size, 0, none⟩) 1 1)
    (hlo : lo ≤ mid) (hmid : mid ≤ w.heap.size) (hn : n < 1073741824)
    (h : ∀ A' c' w', OL e T m w' lo w'.heap.size (.slice A' (n + 1) c') (n + 1) (fs ++ gs) → Only (fun b => v.ownBlock = some b) w w' → K (a.put o.dst (.slice A' (n + 1) c')) w') :
    if Region.wanted o (yielded ops a.tmps) = true then Oper.wp P o a (w.alloc (.cells us.toArray T)) K Q else E := by
  obtain ⟨i, hi, hz, hsz, hb⟩ := info_parts hinfo
  obtain ⟨vs, hown, hhi, hf⟩ := hO
  have hw : Region.wanted o (yielded ops a.tmps) = true := by simp [Region.wanted, hgd]
  rw [if_pos hw]
  have hone : ∀ u ∈ us, u.oneCell' = true := fun u hu' => by
    obtain ⟨p, hp, rfl⟩ := List.mem_iff_getElem.1 hu'
    have hp2 : p < gs.length := by rw [← hu.len]; exact hp
    exact (hu.each p _ _ (List.getElem?_eq_getElem hp) (List.getElem?_eq_getElem hp2)).one
  obtain ⟨v', w', hr, h1, h2, _, h4⟩ := run_append_own_at (P := P) (w.alloc (.cells us.toArray T)) lo t o.type T i z m bytes ht hi hz hsz hb hzs hm0 v n vs (hown.alloc _) ⟨w.heap.size, 0, none⟩ 1 1 us (by rw [hus, Nat.one_mul])
    (by have := World.news_of_block (w := w.alloc (.cells us.toArray T)) (B := w.heap.size) (cs := us.toArray) (t := T) (fr := (0, 0)) (heap_alloc_new w _); simpa using this) hone
    (by simp only [maxLen]; omega) (by have : (n + 1) * bytes ≤ 1073741824 * 1024 := Nat.mul_le_mul (by omega) hby
                                       omega) (by simp; omega)
  unfold Oper.wp execOp
  simp only [ho, resolve, invoke, builtin, Sem.run_bind, Sem.run_pure, Result.andThen_ok, List.map_toArray, List.map_cons, List.map_nil, hs, hx, hr]
  have hg := (World.grownBy_alloc w (.cells us.toArray T) v.ownBlock).trans h2
  have hL := OL.push (w := w) (w' := w') (k := 1) hhi hf hu hlo h1 hg (by
    rcases h4 with h4 | h4
    · exact .inl h4
    · exact .inr ⟨_, h4, by simp, by simp⟩)
  obtain ⟨A', c', rfl⟩ := ownsRow_form h1
  exact h _ _ _ hL (Only.of_grown hg fun k hk => hk)
end
/-- .. 'append(v, Row{V: make([]int, n2)})' -/
theorem step_pushMade {P : Program} {ops : Array Oper} {o : Oper} {a : Act} {K : Act → World → Prop} {Q : Exit → Act → World → Prop} {E : Prop} (w : World) (n2 : Nat) (hn2 : n2 ≤ 1048576) (hgd : o.guard = none) (s x : Operand) (t : TypeId)
    (ho : o.op = .call { callee := .builtin .append, args := #[s, x], argTypes := #[t, t] })
    (z : Value) (ht : P.underlying t = some (.slice 90)) (hinfo : (P.info? 90).map (fun i => (i.zero, i.size, i.bytes)) = some (some z, 1, 24)) (hzs : z.cells.size = 1)
    (lo n c : Nat) (A1 : Option Addr) (fs : List Fl) (hs : a.eval s = .slice A1 n c) (hO : OwRows w lo w.heap.size (.slice A1 n c) n fs) (hx : a.eval x = .slice (some ⟨w.heap.size + 1, 0, none⟩) 1 1) (hlo : lo ≤ w.heap.size) (hn : n < 1073741824)
    (h : ∀ A' c' w', OwRows w' lo w'.heap.size (.slice A' (n + 1) c') (n + 1) (fs ++ [.s (List.replicate n2 0)]) → Only (fun b => (Value.slice A1 n c).ownBlock = some b) w w' → K (a.put o.dst (.slice A' (n + 1) c')) w') :
    if Region.wanted o (yielded ops a.tmps) = true then Oper.wp P o a ((w.alloc (.cells (madeCells #[.int .i64 0] n2) 3)).alloc (.cells #[.slice (some ⟨w.heap.size, 0, none⟩) n2 n2] 90)) K Q else E := by
  have hsz : (w.alloc (.cells (madeCells #[.int .i64 0] n2) 3)).heap.size = w.heap.size + 1 := by simp
  have hb : Below w.heap.size w (w.alloc (.cells (madeCells #[.int .i64 0] n2) 3)) := (Below.refl _ _).alloc (Nat.le_refl _) _
  have hU : FOs 3 (w.alloc (.cells (madeCells #[.int .i64 0] n2) 3)) w.heap.size (w.alloc (.cells (madeCells #[.int .i64 0] n2) 3)).heap.size none [.slice (some ⟨w.heap.size, 0, none⟩) n2 n2] [.s (List.replicate n2 0)] := FOs.one (FO.of_oi (by rw [hsz]; exact OI.made w n2 hn2))
  exact step_pushL (w.alloc (.cells (madeCells #[.int .i64 0] n2) 3)) [.slice (some ⟨w.heap.size, 0, none⟩) n2 n2] [.s (List.replicate n2 0)] hgd s x t ho 3 90 1 24 z ht hinfo hzs (by omega) (by omega) hs (hO.below hb) hU rfl (by rw [hsz]; exact hx) hlo (by omega) hn
    (fun A' c' w' h1 h2 => h A' c' w' h1 ((Only.of_below hb).trans (h2)))
end Go.Proofs.Ytehfglfbnjdcoaa
namespace Go.Proofs.Ytehfglfbnjdcoaa
open Go.RowKit
set_option maxRecDepth 100000

def xOk (ds : List OpD) (x : List Int) : Bool := okMd ds && (okV x && decide ((x.length : Int) = mIn ds))
def inpR (ds : List OpD) (x : List Int) : List (List Int) := if xOk ds x = true then insR ds x else []
def inpS (ds : List OpD) (x : List Int) : Bool := xOk ds x && insS ds x
theorem inp_no {ds : List OpD} {x : List Int} (h : xOk ds x = false) : inpR ds x = [] ∧ inpS ds x = false := by rw [inpR, inpS, h]; exact ⟨rfl, rfl⟩
theorem inp_yes {ds : List OpD} {x : List Int} (h : xOk ds x = true) : inpR ds x = insR ds x ∧ inpS ds x = insS ds x := by rw [inpR, inpS, h]; exact ⟨rfl, rfl⟩
theorem insR_sm : ∀ (ds : List OpD) (xs : List Int), xs.length ≤ 1048576 → SmR (insR ds xs)
  | [], xs, hx, j, r, h => by
    match j with
    | 0 => simp [insR] at h; subst h; exact hx
    | j + 1 => simp [insR] at h
  | d :: ds, xs, hx, j, r, h => by
    match j with
    | 0 => simp [insR] at h; subst h; exact hx
    | j + 1 => exact insR_sm ds (fw d xs) (by have := fw_len d xs; omega) j r (by simpa [insR] using h)
theorem insR_take {ds : List OpD} {xs : List Int} {k : Nat} {d : OpD} {r : List Int} (hd : ds[k]? = some d) (hr : (insR ds xs)[k]? = some r) : ((insR ds xs).take (k + 1 + 1)).flatMap rowF = ((insR ds xs).take (k + 1)).flatMap rowF ++ [.s (fw d r)] := by
  obtain ⟨hk, he⟩ := List.getElem?_eq_some_iff.1 (insR_succ ds xs k d r hd hr)
  rw [List.take_succ_eq_append_getElem hk, he, flat_snoc]
theorem insB_take {ds : List OpD} {xs : List Int} {k : Nat} {d : OpD} {r : List Int} (hd : ds[k]? = some d) (hr : (insR ds xs)[k]? = some r) : ((insB ds xs).take (k + 1)).any id = (((insB ds xs).take k).any id || fwS d r) := by
  rw [any_one _ k (by rw [insB_len]; exact (List.getElem?_eq_some_iff.1 hd).1), insB_get ds xs k d r hd hr]
/-- rows in new memory, and a bool -/
abbrev GiveR (w : World) (rows : List (List Int)) (s : Bool) (e : Ending) (w' : World) : Prop :=
  ∃ A c, e = .returned (.tuple #[.slice A rows.length c, .bool s]) ∧ OwRows w' w.heap.size w'.heap.size (.slice A rows.length c) rows.length (rows.flatMap rowF) ∧ Below w.heap.size w w'
theorem giveR {w w' : World} {rows : List (List Int)} {s t : Bool} {A : Option Addr} {n c : Nat} {e : Ending} (hn : rows.length = n) (hs : s = t) (he : e = .returned (.tuple #[.slice A n c, .bool t]))
    (ho : OwRows w' w.heap.size w'.heap.size (.slice A n c) n (rows.flatMap rowF)) (hb : Below w.heap.size w w') : GiveR w rows s e w' := by
  subst hn; subst hs
  exact ⟨A, c, he, ho, hb⟩
end Go.Proofs.Ytehfglfbnjdcoaa
