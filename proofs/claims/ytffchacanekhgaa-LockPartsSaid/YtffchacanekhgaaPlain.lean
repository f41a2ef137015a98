/-
  PLAIN: lock detectors: which states are valid, a step, a run, the reach. No program in sight.
-/
namespace Go.Proofs.Ytffchacanekhgaa.Plain

def needB (n m : Int) : Bool := decide (1 ≤ n) && decide (n ≤ 100) && decide (1 ≤ m) && decide (m ≤ 100)
/-- A state that some steps reach. -/
def okB (n m u d : Int) (b : Bool) : Bool :=
  if u = 0 ∧ d = 0 then !b
  else if u < 0 ∨ d < 0 ∨ n < u ∨ m < d ∨ (0 < u ∧ 0 < d) then false
  else if u = n then b
  else if d = m then !b
  else if 0 < u ∧ b = true then decide (1 < m)
  else true
def chk (n m u d : Int) (b : Bool) : Int := if needB n m then (if okB n m u d b then 0 else 3) else 2
def newE (n m : Int) : Int := if needB n m then 0 else 2
def newN (n m : Int) : Int := if needB n m then n else 0
def newM (n m : Int) : Int := if needB n m then m else 0
theorem okB_zero (n m : Int) : okB n m 0 0 false = true := by simp [okB]
theorem chk_new (n m : Int) : chk n m 0 0 false = newE n m := by simp [chk, newE, okB_zero]
theorem needB_of (n m : Int) (h1 : 1 ≤ n) (h2 : n ≤ 100) (h3 : 1 ≤ m) (h4 : m ≤ 100) : needB n m = true := by simp [needB, h1, h2, h3, h4]
theorem of_needB (n m : Int) (h : needB n m = true) : 1 ≤ n ∧ n ≤ 100 ∧ 1 ≤ m ∧ m ≤ 100 := by
  simp [needB] at h; omega
end Go.Proofs.Ytffchacanekhgaa.Plain
