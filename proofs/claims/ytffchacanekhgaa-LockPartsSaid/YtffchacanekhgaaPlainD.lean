/-
  PLAIN: the reach, the number that a number selects.
-/
import Derived.Test.YtffchacanekhgaaPlainC
namespace Go.Proofs.Ytffchacanekhgaa.Plain

def rch (m over : Int) : Int := over - 1 + (m - 1) + ((m - 1) * 64 + 1023) / 1024 + 1
def reachE (n m u d : Int) (b : Bool) (over : Int) : Int := if chk n m u d b = 0 then (if 1 ≤ over ∧ over ≤ 8 then 0 else 2) else chk n m u d b
def reachV (n m u d : Int) (b : Bool) (over : Int) : Int := if chk n m u d b = 0 ∧ 1 ≤ over ∧ over ≤ 8 then rch m over else 0

theorem tmod_neg (x n : Int) (hx : x < 0) (hn : 1 ≤ n) : -n < x.tmod n ∧ x.tmod n ≤ 0 ∧ (x.tmod n < 0 → x % n = x.tmod n + n) ∧ (¬ x.tmod n < 0 → x % n = x.tmod n) := by
  have e : x.tmod n = -((-x) % n) := by
    have h1 : (-(-x)).tmod n = -((-x).tmod n) := Int.neg_tmod _ _
    rw [Int.neg_neg] at h1
    rw [h1, Int.tmod_eq_emod_of_nonneg (by omega)]
  have r1 := Int.emod_nonneg (-x) (b := n) (by omega)
  have r2 := Int.emod_lt_of_pos (-x) (b := n) (by omega)
  have d1 := Int.mul_ediv_add_emod (-x) n
  rw [e]
  refine ⟨by omega, by omega, fun h => ?_, fun h => ?_⟩
  · have : x = n * (-((-x) / n) - 1) + (n - (-x) % n) := by
      rw [Int.mul_sub, Int.mul_neg, Int.mul_one]; omega
    rw [this, Int.mul_add_emod_self_left, Int.emod_eq_of_lt (by omega) (by omega)]
    rw [← this]; omega
  · have hz : (-x) % n = 0 := by omega
    have : x = n * (-((-x) / n)) := by rw [Int.mul_neg]; omega
    rw [hz, this, Int.mul_emod_right]; rfl
end Go.Proofs.Ytffchacanekhgaa.Plain
