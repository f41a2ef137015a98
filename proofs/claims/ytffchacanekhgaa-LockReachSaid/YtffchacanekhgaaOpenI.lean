/-
  A slice of ints opened.
-/
import Derived.Test.YtffchacanekhgaaOpen
namespace Go.Proofs.Ytffchacanekhgaa
open Go.Joins Go.ChangeShapes Go.WideShapes Go.RowKit Go.Deep

/-- A slice that reads as a list of ints, below block B. -/
def ReadsI (w : World) (B : Nat) (A : Option Addr) (cs : List Int) : Prop :=
  ∀ j (hj : j < cs.length), ∃ ad, A = some ad ∧ ad.block < B ∧ w.cell? (ad.add j) = some (.int .i64 cs[j])
theorem ReadsI.below {w w' : World} {B : Nat} {A : Option Addr} {cs : List Int} (h : ReadsI w B A cs) (hb : Below B w w') : ReadsI w' B A cs := fun j hj => by
  obtain ⟨ad, e, hlt, hc⟩ := h j hj
  exact ⟨ad, e, hlt, (hb.cell (by rw [add_block]; exact hlt)).trans hc⟩

theorem open_il {H : Type} {enc : TypeId × Value → H} {W : World} {r : Reach} {b0 : Nat} {v : Value} {d : DataW H} {p : List MemPlace} (hv : Value.okWide Try.prog W r b0 41 v)
    (h : DataW.Trod enc Try.prog W 0 (fun _ => true) true 41 v d p) : ∃ A len cap cs, v = .slice A len cap ∧ cs.length = len ∧ len ≤ maxLen ∧ ReadsI W W.heap.size A cs := by
  obtain ⟨A, len, cap, rfl⟩ := okWide_slice Try.underlying41 hv
  obtain ⟨fuel, hf⟩ := h
  rcases open_slice1 Try.underlying41 cells3' hf with ⟨hcs, _⟩ | ⟨a, len', cap', m, n, V, D, Pl, hcs, _, hl, hm, hmm, _, hx⟩
  · simp [Value.cells] at hcs
    obtain ⟨rfl, rfl, rfl⟩ := hcs
    exact ⟨none, 0, 0, [], rfl, rfl, Nat.zero_le _, fun j hj => absurd hj (by simp)⟩
  · simp [Value.cells] at hcs
    obtain ⟨rfl, rfl, rfl⟩ := hcs
    have hB : ∀ i, i < len → ∃ b : Int, W.cell? (a.add i) = some (.int .i64 b) := by
      intro i hi
      obtain ⟨h1, h2⟩ := hx i (by simp at hmm; omega)
      obtain ⟨b, hb, _⟩ := DataW.trod_int Try.underlying3 h2
      have e : V i = .int .i64 b := by simpa using hb
      exact ⟨b, by rw [h1, e]⟩
    obtain ⟨f, hf⟩ : ∃ f : Nat → Int, ∀ i, i < len → W.cell? (a.add i) = some (.int .i64 (f i)) := by
      refine ⟨fun i => if h : i < len then (hB i h).choose else 0, fun i hi => ?_⟩
      simp only [hi, dite_true]
      exact (hB i hi).choose_spec
    refine ⟨some a, len, cap, (List.range len).map f, rfl, by simp, by omega, fun j hj => ⟨a, rfl, ?_, ?_⟩⟩
    · have := block_of_cell (hf j (by simpa using hj))
      rwa [add_block] at this
    · simp only [List.getElem_map, List.getElem_range]
      exact hf j (by simpa using hj)
end Go.Proofs.Ytffchacanekhgaa
