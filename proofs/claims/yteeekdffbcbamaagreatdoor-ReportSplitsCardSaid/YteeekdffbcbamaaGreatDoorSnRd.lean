/-
  WHAT Split HANDS OVER, read.
-/
import Derived.Test.YteeekdffbcbamaaGreatDoorSplitW
import Derived.Test.YteeekdffbcbamaaGreatDoorSameL
import Derived.Test.YteeekdffbcbamaaGreatDoorG7
namespace Go.Proofs.YteeekdffbcbamaaGreatDoor
open Go.RowKit

theorem rowCells_get : ∀ (es : List (Plain.Sn × Value)) (j : Nat) (h : j < es.length) (k : Nat), k < 14 → (rowCells es)[j * 14 + k]? = (snCells es[j].1 es[j].2)[k]?
  | [], j, h, _, _ => absurd h (by simp)
  | e :: r, 0, _, k, hk => by
    show ((snCells e.1 e.2).toList ++ rowCells r)[0 * 14 + k]? = _
    rw [List.getElem?_append_left (by show 0 * 14 + k < 14; omega), Nat.zero_mul, Nat.zero_add]
    simp
  | e :: r, j + 1, h, k, hk => by
    have ih := rowCells_get r j (by simpa using h) k hk
    show ((snCells e.1 e.2).toList ++ rowCells r)[(j + 1) * 14 + k]? = _
    have hl : (snCells e.1 e.2).toList.length = 14 := rfl
    rw [List.getElem?_append_right (by rw [hl]; omega), hl, show (j + 1) * 14 + k - 14 = j * 14 + k by omega, ih]
    rfl
theorem SnR.reads {B : Nat} {W : World} {v2 v3 : Value} {es : List (Plain.Sn × Value)} {bad : List Int} (h : SnR B W v2 v3 es bad) : ∃ A c, v2 = .slice A es.length c ∧ SnAt W A es := by
  rcases h.1.2 with ⟨rfl, h0⟩ | ⟨g, cap, cur, rfl, hg, hh, hr⟩
  · exact ⟨none, 0, by rw [h0], fun j hj => absurd hj (by omega)⟩
  · refine ⟨_, _, rfl, fun j hj => ⟨g, 0, rfl, ?_, fun k u hu => ?_⟩⟩
    · have h3 := (h.2.2 _ (List.getElem_mem hj)).1
      obtain ⟨Aj, cj, e⟩ := own_formQ h3
      refine ⟨Aj, cj, e, ?_⟩
      rw [e] at h3
      exact own_PrL (own_less h3 (Nat.zero_le _))
    · have hk : k < 14 := by
        have := (Array.getElem?_eq_some_iff.1 hu).1
        exact this
      have h1 : (rowCells es)[j * 14 + k]? = some u := (rowCells_get es j hj k hk).trans hu
      have h2 := h.1.cells (g := g) rfl (j * 14 + k) u h1
      have e : (⟨g, 0, none⟩ : Addr).add (j * 14 + k) = ⟨g, 0 + j * 14 + k, none⟩ := by
        have e2 : (⟨g, 0, none⟩ : Addr).add (j * 14 + k) = ⟨g, j * 14 + k, none⟩ := by
          generalize j * 14 + k = q
          simp [Addr.add]
          exact Eq.symm
        rw [e2, Nat.zero_add]
      rw [← e]
      exact h2
end Go.Proofs.YteeekdffbcbamaaGreatDoor
