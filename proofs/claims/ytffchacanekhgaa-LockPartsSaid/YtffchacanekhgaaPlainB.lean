/-
  PLAIN: a step of a detector.
-/
import Derived.Test.YtffchacanekhgaaPlain
namespace Go.Proofs.Ytffchacanekhgaa.Plain
/-- A step: the claims in a row, the windows without one, locked. -/
def stU (n u : Int) (c : Bool) : Int := if c then (if u + 1 ≤ n then u + 1 else n) else 0
def stD (m d : Int) (c : Bool) : Int := if c then 0 else (if d + 1 ≤ m then d + 1 else m)
def stB (n m u d : Int) (b c : Bool) : Bool := if c then (b || stU n u c == n) else (b && decide (stD m d c < m))
theorem okB_bd (n m u d : Int) (b : Bool) (hn : 1 ≤ n) (hm : 1 ≤ m) (h : okB n m u d b = true) : 0 ≤ u ∧ u ≤ n ∧ 0 ≤ d ∧ d ≤ m := by
  unfold okB at h
  split at h
  · omega
  · split at h
    · cases h
    · omega
theorem chk_ok (n m u d : Int) (b : Bool) (h : chk n m u d b = 0) : needB n m = true ∧ okB n m u d b = true := by
  unfold chk at h
  split at h
  · rename_i h1
    split at h
    · rename_i h2; exact ⟨h1, h2⟩
    · cases h
  · cases h
theorem chk_bd (n m u d : Int) (b : Bool) (h : chk n m u d b = 0) : 1 ≤ n ∧ n ≤ 100 ∧ 1 ≤ m ∧ m ≤ 100 ∧ 0 ≤ u ∧ u ≤ n ∧ 0 ≤ d ∧ d ≤ m := by
  obtain ⟨h1, h2⟩ := chk_ok n m u d b h
  obtain ⟨a1, a2, a3, a4⟩ := of_needB n m h1
  obtain ⟨b1, b2, b3, b4⟩ := okB_bd n m u d b a1 a3 h2
  exact ⟨a1, a2, a3, a4, b1, b2, b3, b4⟩
/-- A step keeps a valid state valid. -/
theorem chk_step (n m u d : Int) (b c : Bool) (h : chk n m u d b = 0) : chk n m (stU n u c) (stD m d c) (stB n m u d b c) = 0 := by
  obtain ⟨h1, h2⟩ := chk_ok n m u d b h
  obtain ⟨a1, a2, a3, a4, b1, b2, b3, b4⟩ := chk_bd n m u d b h
  have key : okB n m (stU n u c) (stD m d c) (stB n m u d b c) = true := by
    cases c
    · have e1 : stU n u false = 0 := rfl
      have e3 : stB n m u d b false = (b && decide (stD m d false < m)) := rfl
      rw [e1, e3]
      have e2 : 1 ≤ stD m d false ∧ stD m d false ≤ m := by
        show 1 ≤ (if d + 1 ≤ m then d + 1 else m) ∧ (if d + 1 ≤ m then d + 1 else m) ≤ m
        split <;> omega
      generalize stD m d false = x at e2
      rw [okB, if_neg (by omega), if_neg (by omega), if_neg (by omega)]
      by_cases hx : x = m
      · rw [if_pos hx]; simp [hx]
      · rw [if_neg hx, if_neg (by omega)]
    · have e1 : stD m d true = 0 := rfl
      have e3 : stB n m u d b true = (b || stU n u true == n) := rfl
      rw [e1, e3]
      have e2 : 1 ≤ stU n u true ∧ stU n u true ≤ n := by
        show 1 ≤ (if u + 1 ≤ n then u + 1 else n) ∧ (if u + 1 ≤ n then u + 1 else n) ≤ n
        split <;> omega
      have e4 : b = true → 1 < m ∨ stU n u true = n := by
        intro hb
        subst hb
        by_cases hm : 1 < m
        · exact Or.inl hm
        · right
          obtain rfl : m = 1 := by omega
          have hu : u = n := by
            unfold okB at h2
            split at h2
            · cases h2
            · split at h2
              · cases h2
              · split at h2
                · assumption
                · split at h2
                  · cases h2
                  · split at h2
                    · simp at h2
                    · rename_i k1 k2 k3 k4 k5
                      simp at k5
                      omega
          subst hu
          show (if u + 1 ≤ u then u + 1 else u) = u
          rw [if_neg (by omega)]
      generalize stU n u true = x at e2 e4
      rw [okB, if_neg (by omega), if_neg (by omega)]
      by_cases hx : x = n
      · rw [if_pos hx]; simp [hx]
      · rw [if_neg hx, if_neg (by omega)]
        cases b
        · simp [hx]
        · have := e4 rfl
          rw [if_pos (by constructor; omega; simp)]
          simp; omega
  simp [chk, h1, key]
end Go.Proofs.Ytffchacanekhgaa.Plain
