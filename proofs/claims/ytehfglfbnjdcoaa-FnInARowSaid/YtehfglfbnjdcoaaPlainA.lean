/-
  Plain Lean functions for the fixed-point numbers (no program in sight).
-/
import Derived.Below
import Derived.Calls
import Derived.RowKit
namespace Go.Proofs.Ytehfglfbnjdcoaa
theorem hide {p : Prop} (h : p) : Go.RowKit.Hid p := h

theorem rI {k : IntKind} {a b : Int} (h : a = b) : Ending.returned (.int k a) = .returned (.int k b) := by rw [h]
theorem rB {a b : Bool} (h : a = b) : Ending.returned (.bool a) = .returned (.bool b) := by rw [h]
theorem rIB {k : IntKind} {a b : Int} {p q : Bool} (h : a = b) (h' : p = q) : Ending.returned (.tuple #[.int k a, .bool p]) = .returned (.tuple #[.int k b, .bool q]) := by rw [h, h']
theorem rII {k k' : IntKind} {a b a' b' : Int} (h : a = b) (h' : a' = b') : Ending.returned (.tuple #[.int k a, .int k' a']) = .returned (.tuple #[.int k b, .int k' b']) := by rw [h, h']
/-- a number taken into the range -/
def clp (x : Int) : Int := if x < -2147483647 then -2147483647 else if 2147483647 < x then 2147483647 else x
/-- was it out of the range? -/
def sat (x : Int) : Bool := decide (x < -2147483647) || decide (2147483647 < x)
theorem clp_bd (x : Int) : -2147483647 ≤ clp x ∧ clp x ≤ 2147483647 := by unfold clp; split <;> (try split) <;> omega
theorem clp_lo (x : Int) : -2147483647 ≤ clp x := (clp_bd x).1
theorem clp_hi (x : Int) : clp x ≤ 2147483647 := (clp_bd x).2
def fxAdd (a b : Int) : Int := clp (clp a + clp b)
def fxAddS (a b : Int) : Bool := sat (clp a + clp b)
def fxSub (a b : Int) : Int := clp (clp a - clp b)
def fxSubS (a b : Int) : Bool := sat (clp a - clp b)
def fxMul (a b : Int) : Int := clp (clp a * clp b / 65536)
def fxMulS (a b : Int) : Bool := sat (clp a * clp b / 65536)
def fxNeg (a : Int) : Int := -clp a
def fxRelu (a : Int) : Int := if clp a < 0 then 0 else clp a
def fxOk (x : Int) : Bool := decide (-2147483647 ≤ x) && decide (x ≤ 2147483647)

theorem mul_bd {a b : Int} (ha : -2147483647 ≤ a) (ha' : a ≤ 2147483647) (hb : -2147483647 ≤ b) (hb' : b ≤ 2147483647) :
    -4611686014132420609 ≤ a * b ∧ a * b ≤ 4611686014132420609 := by
  have h1 : (2147483647 - a) * (2147483647 - b) ≥ 0 := Int.mul_nonneg (by omega) (by omega)
  have h2 : (2147483647 + a) * (2147483647 + b) ≥ 0 := Int.mul_nonneg (by omega) (by omega)
  have h3 : (2147483647 - a) * (2147483647 + b) ≥ 0 := Int.mul_nonneg (by omega) (by omega)
  have h4 : (2147483647 + a) * (2147483647 - b) ≥ 0 := Int.mul_nonneg (by omega) (by omega)
  simp only [Int.sub_mul, Int.add_mul, Int.mul_sub, Int.mul_add] at h1 h2 h3 h4
  omega
theorem clp_mul_bd (a b : Int) : -4611686014132420609 ≤ clp a * clp b ∧ clp a * clp b ≤ 4611686014132420609 :=
  mul_bd (clp_lo a) (clp_hi a) (clp_lo b) (clp_hi b)

theorem tdiv_neg_of (a : Int) (h : a < 0) : a.tdiv 65536 = -((-a) / 65536) := by
  have h1 : (-a).tdiv 65536 = (-a) / 65536 := Int.tdiv_eq_ediv_of_nonneg (by omega)
  have h2 : (-a).tdiv 65536 = -(a.tdiv 65536) := Int.neg_tdiv _ _
  omega
theorem tmod_of (a : Int) : a.tmod 65536 = a - 65536 * a.tdiv 65536 := by
  have := Int.tmod_add_mul_tdiv a 65536
  omega
theorem flo1 (a : Int) (h : a.tmod 65536 = 0) : a.tdiv 65536 = a / 65536 := by
  rw [tmod_of] at h
  by_cases h0 : 0 ≤ a
  · exact Int.tdiv_eq_ediv_of_nonneg h0
  · rw [tdiv_neg_of a (by omega)] at h ⊢; omega
theorem flo2 (a : Int) (h1 : -4611686014132420609 ≤ a) (h : ¬ a.tmod 65536 = 0) (h0 : a < 0) : Go.RowKit.wrap64 (a.tdiv 65536 - 1) = a / 65536 := by
  rw [tmod_of] at h
  rw [tdiv_neg_of a h0] at h ⊢
  unfold Go.RowKit.wrap64
  omega
theorem flo3 (a : Int) (h0 : 0 ≤ a) : a.tdiv 65536 = a / 65536 := Int.tdiv_eq_ediv_of_nonneg h0
end Go.Proofs.Ytehfglfbnjdcoaa
