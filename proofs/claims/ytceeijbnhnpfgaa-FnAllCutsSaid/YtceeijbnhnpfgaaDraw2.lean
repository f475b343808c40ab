/-
  More of what is drawn.
-/
import Derived.Test.YtceeijbnhnpfgaaDraw
namespace Go.Proofs.Ytceeijbnhnpfgaa
open Go.RowKit
theorem spec_DrawAllCuts {B n cap : Nat} {A : Option Addr} (w : World) (hb : BA w B A n cap) (hB : B ≤ w.heap.size) : Calls Try.prog 25 #[.slice A n cap] w fun e w' => ∃ x y, e = .returned (.tuple #[.int .i64 x, .int .i64 y]) ∧ 0 ≤ x ∧ x ≤ 9 ∧ 0 ≤ y ∧ y ≤ 5 ∧ Below w.heap.size w w' := by
  have HN := hide (spec_l1New w hb hB)
  clear hb
  go_enter Try.func25, Try.ntmps25
  go_wp2_with fail
  refine HN.out.mono ?_
  rintro e w1 ⟨rfl, hb, hc⟩
  go_wp2_with fail
  refine (spec_l1Below 10 _ hc (by omega) (by omega)).mono ?_
  rintro e w2 ⟨x, rfl, hx0, hx1, ho, hc2⟩
  go_wp2_with fail
  refine (spec_l1Below 6 _ hc2 (by omega) (by omega)).mono ?_
  rintro e w3 ⟨y, rfl, hy0, hy1, ho2, hc3⟩
  have hs := hb.size
  go_wp2_with fail
  go_ret2
  exact ⟨x, y, rfl, hx0, hx1, hy0, hy1, hb.trans ((ho.trans ho2).below hs (fun k hk e => by omega))⟩
end Go.Proofs.Ytceeijbnhnpfgaa
