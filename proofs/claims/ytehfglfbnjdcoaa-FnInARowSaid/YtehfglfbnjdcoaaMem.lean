/-
  Words for memory: what the walks lean on (any program).
-/
import Derived.WalkKit
import Derived.Deep.OwnRows
import Derived.Laws.BytesArg
import Derived.Deep.AppendLies
import Derived.Maps.AppendAt
namespace Go.Proofs.Ytehfglfbnjdcoaa
open Go.RowKit
set_option maxRecDepth 100000
section
variable {P : Program} {w w' : World} {base : Nat} {e : TypeId} {v : Value} {n : Nat}

/-- the bytes of an owned row, as a text -/
theorem run_conv_own {src dst : TypeId} (hs : P.underlying src = some (.slice e)) (he : P.underlying e = some (.int .u8)) (hd : P.underlying dst = some .string) {xs : List Int}
    (h : w.ownsRow base e 1 v n (xs.map (Value.int .u8))) : (convert src dst v).run P w = .ok (.string (strOfNums xs)) w := by
  have hl := h.1
  rcases h.2 with ⟨rfl, rfl⟩ | ⟨g, cap, cur, rfl, hg, hh, hn, hc, hsz, ht⟩
  · have hx : xs = [] := by simpa using hl
    subst hx
    exact run_convert_bytes_nil w src e hs he 0 0 dst hd
  · refine run_convert_bytes_arg w src e hs he g 0 n cap xs (by simpa using hl) (fun i hi => ?_) dst hd
    have hi' : i < xs.length := by simp at hl; omega
    have := h.cellAt i (by omega)
    rw [Nat.zero_add, this]
    simp [List.getD, List.getElem?_eq_getElem hi']
/-- the bytes of a new row, as a text -/
theorem run_conv_new {src dst : TypeId} (hs : P.underlying src = some (.slice e)) (he : P.underlying e = some (.int .u8)) (hd : P.underlying dst = some .string) (w : World) (x : Int) :
    (convert src dst (.slice (some ⟨w.heap.size, 0, none⟩) 1 1)).run P (w.alloc (.cells #[.int .u8 x] e)) = .ok (.string (strOfNums [x])) (w.alloc (.cells #[.int .u8 x] e)) :=
  run_conv_own (base := 0) (xs := [x]) hs he hd (World.ownsRow_lit w #[.int .u8 x] 1 (Nat.zero_le _) (by decide) rfl)
end
theorem cells1 {w : World} (x : Value) (t : TypeId) (hb : Nat) (h : hb = w.heap.size) : ∀ j u, [x][j]? = some u → (w.alloc (.cells #[x] t)).cell? ((⟨hb, 0, none⟩ : Addr).add j) = some u := by
  subst h; exact cell_one_new w x t

section
variable {P : Program} {ops : Array Oper} {rest : List Oper} {o : Oper} {a : Act} {Q : Exit → Act → World → Prop}
/-- 'append(s, u)', one element of one cell, onto a row of the call's own -/
theorem wpList_push1 (w : World) (u : Value) (hgd : o.guard = none) (s x : Operand) (t : TypeId)
    (ho : o.op = .call { callee := .builtin .append, args := #[s, x], argTypes := #[t, t] })
    (base : Nat) (e : TypeId) (z : Value) (bytes : Nat) (ht : P.underlying t = some (.slice e)) (hinfo : (P.info? e).map (fun i => (i.zero, i.size, i.bytes)) = some (some z, 1, bytes)) (hzs : z.cells.size = 1)
    (v : Value) (n : Nat) (xs : List Value) (hs : a.eval s = v) (hown : w.ownsRow base e 1 v n xs) (hu : u.oneCell' = true)
    (hx : a.eval x = .slice (some ⟨w.heap.size, 0, none⟩) 1 1) (hlen : n + 1 ≤ 1073741824) (hby : bytes ≤ 1024) (hbase : base ≤ w.heap.size)
    (h : ∀ v' w', w'.ownsRow base e 1 v' (n + 1) (xs ++ [u]) → w.grownBy w' v.ownBlock → (v'.ownBlock = v.ownBlock ∨ v'.ownBlock = some (w.heap.size + 1)) → wpList P ops Q rest (a.put o.dst v') w') :
    wpList P ops Q (o :: rest) a (w.alloc (.cells #[u] e)) := by
  obtain ⟨i, hi, hz, hsz, hb⟩ := info_parts hinfo
  refine wpList_append_own_at (w.alloc (.cells #[u] e)) hgd s x t ho base e i z 1 bytes ht hi hz hsz hb hzs (by omega) v n xs hs (hown.alloc _) ⟨w.heap.size, 0, none⟩ 1 1 [u] hx rfl (cell_one_new w u e) (fun u' hu' => ?_) ?_ ?_ ?_ (fun v' w' h1 h2 _ h4 => ?_)
  · simp at hu'; subst hu'; exact hu
  · simp only [maxLen]; omega
  · have : (n + 1) * bytes ≤ 1073741824 * 1024 := Nat.mul_le_mul hlen hby
    omega
  · simp; omega
  · refine h v' w' h1 ((World.grownBy_alloc w _ _).trans h2) ?_
    simpa using h4
end

section
variable {P : Program} {ops : Array Oper} {o : Oper} {a : Act} {K : Act → World → Prop} {Q : Exit → Act → World → Prop} {E : Prop}
/-- 'append(s, us...)', the new cells in a new block, onto a row of the call's own: as a step of a region that draws its order -/
theorem step_pushN (w : World) (us : List Value) (hgd : o.guard = none) (s x : Operand) (t : TypeId)
    (ho : o.op = .call { callee := .builtin .append, args := #[s, x], argTypes := #[t, t] })
    (base : Nat) (e : TypeId) (z : Value) (bytes : Nat) (ht : P.underlying t = some (.slice e)) (hinfo : (P.info? e).map (fun i => (i.zero, i.size, i.bytes)) = some (some z, 1, bytes)) (hzs : z.cells.size = 1)
    (v : Value) (n m : Nat) (xs : List Value) (hs : a.eval s = v) (hown : w.ownsRow base e 1 v n xs) (hm : us.length = m) (hu : ∀ u ∈ us, u.oneCell' = true)
    (hx : a.eval x = .slice (some ⟨w.heap.size, 0, none⟩) m m) (hlen : n + m ≤ 1073741824) (hby : bytes ≤ 1024) (hbase : base ≤ w.heap.size)
    (h : ∀ v' w', w'.ownsRow base e 1 v' (n + m) (xs ++ us) → w.grownBy w' v.ownBlock → (v'.ownBlock = v.ownBlock ∨ v'.ownBlock = some (w.heap.size + 1)) → K (a.put o.dst v') w') :
    if Region.wanted o (yielded ops a.tmps) = true then Oper.wp P o a (w.alloc (.cells us.toArray e)) K Q else E := by
  obtain ⟨i, hi, hz, hsz, hb⟩ := info_parts hinfo
  have hw : Region.wanted o (yielded ops a.tmps) = true := by simp [Region.wanted, hgd]
  rw [if_pos hw]
  obtain ⟨v', w', hr, h2, h3, _, h5⟩ := run_append_own_at (P := P) (w.alloc (.cells us.toArray e)) base t o.type e i z 1 bytes ht hi hz hsz hb hzs (by omega) v n xs (hown.alloc _) ⟨w.heap.size, 0, none⟩ m m us (by rw [hm, Nat.mul_one])
    (by have := World.news_of_block (w := w.alloc (.cells us.toArray e)) (B := w.heap.size) (cs := us.toArray) (t := e) (fr := (0, 0)) (heap_alloc_new w _); simpa using this) hu
    (by simp only [maxLen]; omega) (by have : (n + m) * bytes ≤ 1073741824 * 1024 := Nat.mul_le_mul hlen hby
                                       omega) (by simp; omega)
  unfold Oper.wp execOp
  simp only [ho, resolve, invoke, builtin, Sem.run_bind, Sem.run_pure, Result.andThen_ok, List.map_toArray, List.map_cons, List.map_nil, hs, hx, hr]
  exact h v' w' h2 ((World.grownBy_alloc w _ _).trans h3) (by simpa using h5)
end
end Go.Proofs.Ytehfglfbnjdcoaa
