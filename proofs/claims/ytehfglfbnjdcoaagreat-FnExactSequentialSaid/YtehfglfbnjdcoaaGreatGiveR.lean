/-
  What goes into each operation: words.
-/
import Derived.Test.YtehfglfbnjdcoaaGreatGiveG
import Derived.Test.YtehfglfbnjdcoaaGreatPlainF
namespace Go.Proofs.YtehfglfbnjdcoaaGreat
open Go.RowKit
set_option maxRecDepth 100000

def xOk (ds : List OpD) (x : List Int) : Bool := okMd ds && (okV x && decide ((x.length : Int) = mIn ds))
def inpR (ds : List OpD) (x : List Int) : List (List Int) := if xOk ds x = true then insR ds x else []
def inpS (ds : List OpD) (x : List Int) : Bool := xOk ds x && insS ds x
theorem inp_no {ds : List OpD} {x : List Int} (h : xOk ds x = false) : inpR ds x = [] ∧ inpS ds x = false := by rw [inpR, inpS, h]; exact ⟨rfl, rfl⟩
theorem inp_yes {ds : List OpD} {x : List Int} (h : xOk ds x = true) : inpR ds x = insR ds x ∧ inpS ds x = insS ds x := by rw [inpR, inpS, h]; exact ⟨rfl, rfl⟩
theorem insR_sm : ∀ (ds : List OpD) (xs : List Int), xs.length ≤ 1048576 → SmR (insR ds xs)
  | [], xs, hx, j, r, h => by
    match j with
    | 0 => simp [insR] at h; subst h; exact hx
    | j + 1 => simp [insR] at h
  | d :: ds, xs, hx, j, r, h => by
    match j with
    | 0 => simp [insR] at h; subst h; exact hx
    | j + 1 => exact insR_sm ds (fw d xs) (by have := fw_len d xs; omega) j r (by simpa [insR] using h)
theorem insR_take {ds : List OpD} {xs : List Int} {k : Nat} {d : OpD} {r : List Int} (hd : ds[k]? = some d) (hr : (insR ds xs)[k]? = some r) : ((insR ds xs).take (k + 1 + 1)).flatMap rowF = ((insR ds xs).take (k + 1)).flatMap rowF ++ [.s (fw d r)] := by
  obtain ⟨hk, he⟩ := List.getElem?_eq_some_iff.1 (insR_succ ds xs k d r hd hr)
  rw [List.take_succ_eq_append_getElem hk, he, flat_snoc]
theorem insB_take {ds : List OpD} {xs : List Int} {k : Nat} {d : OpD} {r : List Int} (hd : ds[k]? = some d) (hr : (insR ds xs)[k]? = some r) : ((insB ds xs).take (k + 1)).any id = (((insB ds xs).take k).any id || fwS d r) := by
  rw [any_one _ k (by rw [insB_len]; exact (List.getElem?_eq_some_iff.1 hd).1), insB_get ds xs k d r hd hr]
/-- rows in new memory, and a bool -/
abbrev GiveR (w : World) (rows : List (List Int)) (s : Bool) (e : Ending) (w' : World) : Prop :=
  ∃ A c, e = .returned (.tuple #[.slice A rows.length c, .bool s]) ∧ OwRows w' w.heap.size w'.heap.size (.slice A rows.length c) rows.length (rows.flatMap rowF) ∧ Below w.heap.size w w'
theorem giveR {w w' : World} {rows : List (List Int)} {s t : Bool} {A : Option Addr} {n c : Nat} {e : Ending} (hn : rows.length = n) (hs : s = t) (he : e = .returned (.tuple #[.slice A n c, .bool t]))
    (ho : OwRows w' w.heap.size w'.heap.size (.slice A n c) n (rows.flatMap rowF)) (hb : Below w.heap.size w w') : GiveR w rows s e w' := by
  subst hn; subst hs
  exact ⟨A, c, he, ho, hb⟩
end Go.Proofs.YtehfglfbnjdcoaaGreat
