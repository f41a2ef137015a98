/-
  PLAIN: how far a locked channel can be off.
-/
import Derived.Test.YtffchacanekhgaaPlainD
namespace Go.Proofs.Ytffchacanekhgaa.Plain

/-- A locked state has had fewer than m windows without a claim. -/
theorem locked_lt (n m u d : Int) (h : chk n m u d true = 0) : d < m := by
  obtain ⟨h1, h2⟩ := chk_ok n m u d true h
  obtain ⟨a1, a2, a3, a4, b1, b2, b3, b4⟩ := chk_bd n m u d true h
  by_cases hd : d = m
  · exfalso
    subst hd
    unfold okB at h2
    split at h2
    · cases h2
    · split at h2
      · cases h2
      · split at h2
        · omega
        · simp at h2
  · omega

/-- The last claim is known: q is the emitter's place at that window (in 1,024ths), d windows without a claim since. -/
def Near (over d K off : Int) : Prop := ∃ q : Int, -64 * (d + 1) ≤ K - q ∧ K - q ≤ 64 * (d + 1) ∧ -(over + d) ≤ off + K / 1024 - q / 1024 ∧ off + K / 1024 - q / 1024 ≤ over + d

/-- One window more, with a claim. -/
theorem near_claim (over K K' r off mv : Int) (hK : K' = K + r) (hr1 : -64 ≤ r) (hr2 : r ≤ 64) (h1 : off < over) (h2 : -off < over) (m1 : -1 ≤ mv) (m2 : mv ≤ 1) :
    Near over 0 K' (off + mv - (K' / 1024 - K / 1024)) := ⟨K, by omega, by omega, by omega, by omega⟩
theorem near_miss (over d K K' r off mv : Int) (hK : K' = K + r) (hr1 : -64 ≤ r) (hr2 : r ≤ 64) (h : Near over d K off) (m1 : -1 ≤ mv) (m2 : mv ≤ 1) :
    Near over (d + 1) K' (off + mv - (K' / 1024 - K / 1024)) := by
  obtain ⟨q, h1, h2, h3, h4⟩ := h
  exact ⟨q, by omega, by omega, by omega, by omega⟩
theorem near_reach (over m d K off : Int) (h : Near over d K off) (hd : d + 1 < m) : off ≤ rch m over ∧ -off ≤ rch m over := by
  obtain ⟨q, h1, h2, h3, h4⟩ := h
  unfold rch
  omega
theorem claim_reach (over m off : Int) (hm : 1 ≤ m) (h1 : off < over) (h2 : -off < over) : off ≤ rch m over ∧ -off ≤ rch m over := by
  unfold rch
  omega
theorem mul_bd (k r : Int) (hk : 0 ≤ k) (hk2 : k ≤ 201) (hr1 : -64 ≤ r) (hr2 : r ≤ 64) : -12864 ≤ k * r ∧ k * r ≤ 12864 := by
  have a := Int.mul_le_mul_of_nonneg_left hr2 hk
  have b := Int.mul_le_mul_of_nonneg_left hr1 hk
  omega
/-- What the loop keeps. -/
def Inv (n m over K : Int) (u d : Int) (b : Bool) (off : Int) : Prop := chk n m u d b = 0 ∧ (b = true → Near over d K off)
theorem inv_start (n m over : Int) (h : needB n m = true) : Inv n m over 0 0 0 false 0 := ⟨by rw [chk_new, newE, h]; rfl, fun h => by cases h⟩
theorem inv_step (n m over K K' r : Int) (u d : Int) (b : Bool) (off mv : Int) (c : Bool) (hc : c = (decide (off < over) && decide (-off < over))) (hK : K' = K + r) (hr1 : -64 ≤ r) (hr2 : r ≤ 64) (m1 : -1 ≤ mv) (m2 : mv ≤ 1)
    (h : Inv n m over K u d b off) : Inv n m over K' (stU n u c) (stD m d c) (stB n m u d b c) (off + mv - (K' / 1024 - K / 1024)) ∧ (stB n m u d b c = true → off ≤ rch m over ∧ -off ≤ rch m over) := by
  obtain ⟨hv, hN⟩ := h
  obtain ⟨a1, a2, a3, a4, b1, b2, b3, b4⟩ := chk_bd n m u d b hv
  cases c
  · have e3 : stB n m u d b false = (b && decide (stD m d false < m)) := rfl
    refine ⟨⟨chk_step n m u d b false hv, fun hb => ?_⟩, fun hb => ?_⟩
    · rw [e3] at hb
      simp at hb
      obtain ⟨rfl, hlt⟩ := hb
      have hs : stD m d false = d + 1 := by
        have : stD m d false = if d + 1 ≤ m then d + 1 else m := rfl
        rw [this] at hlt ⊢
        split at hlt
        · rw [if_pos (by assumption)]
        · omega
      rw [hs]
      exact near_miss over d K K' r off mv hK hr1 hr2 (hN rfl) m1 m2
    · rw [e3] at hb
      simp at hb
      obtain ⟨rfl, hlt⟩ := hb
      have hs : d + 1 < m := by
        have : stD m d false = if d + 1 ≤ m then d + 1 else m := rfl
        rw [this] at hlt
        split at hlt <;> omega
      exact near_reach over m d K off (hN rfl) hs
  · have hcc : off < over ∧ -off < over := by
      have := hc.symm
      simpa using this
    have e2 : stD m d true = 0 := rfl
    refine ⟨⟨chk_step n m u d b true hv, fun _ => ?_⟩, fun _ => claim_reach over m off a3 hcc.1 hcc.2⟩
    rw [e2]
    exact near_claim over K K' r off mv hK hr1 hr2 hcc.1 hcc.2 m1 m2
end Go.Proofs.Ytffchacanekhgaa.Plain
