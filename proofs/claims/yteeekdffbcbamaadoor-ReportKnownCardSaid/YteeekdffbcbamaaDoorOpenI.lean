/-
  AN ARGUMENT OPENED: a slice of integers; the heap that holds the listed variables.
-/
import Derived.Test.YteeekdffbcbamaaDoorG6
import Derived.Test.YteeekdffbcbamaaDoorRowL
import Derived.Test.YteeekdffbcbamaaDoorG2
import Derived.Lib.SmallJoins
import Derived.Deep.Slices
namespace Go.Proofs.YteeekdffbcbamaaDoor
open Go.Joins Go.ChangeShapes Go.WideShapes Go.RowKit Go.Deep

theorem cellsI1 : Tryd.prog.cellsOf 3 = 1 := by kernel_rfl
set_option maxRecDepth 100000 in
theorem open_il {H : Type} {enc : TypeId × Value → H} {W : World} {r : Reach} {b0 : Nat} {v : Value} {d : DataW H} {p : List MemPlace} (hv : Value.okWide Tryd.prog W r b0 26 v)
    (h : DataW.Trod enc Tryd.prog W 0 (fun _ => true) true 26 v d p) : ∃ A len cap cs, v = .slice A len cap ∧ cs.length = len ∧ PrL W A cs := by
  obtain ⟨A, len, cap, rfl⟩ := okWide_slice Tryd.underlying26 hv
  obtain ⟨fuel, hf⟩ := h
  rcases open_slice1 Tryd.underlying26 cellsI1 hf with ⟨hcs, _⟩ | ⟨a, len', cap', m, n, V, D, Pl, hcs, _, hl, hm, hmm, _, hx⟩
  · simp [Value.cells] at hcs
    obtain ⟨rfl, rfl, rfl⟩ := hcs
    exact ⟨none, 0, 0, [], rfl, rfl, fun j hj => absurd hj (by simp)⟩
  · simp [Value.cells] at hcs
    obtain ⟨rfl, rfl, rfl⟩ := hcs
    have hB : ∀ i, i < len → ∃ b : Int, W.cell? (a.add i) = some (.int .i64 b) := by
      intro i hi
      obtain ⟨h1, h2⟩ := hx i (by simp at hmm; omega)
      obtain ⟨b, hb, _⟩ := DataW.trod_int Tryd.underlying3 h2
      have e : V i = .int .i64 b := by simpa using hb
      exact ⟨b, by rw [h1, e]⟩
    obtain ⟨f, hf⟩ : ∃ f : Nat → Int, ∀ i, i < len → W.cell? (a.add i) = some (.int .i64 (f i)) := by
      refine ⟨fun i => if h : i < len then (hB i h).choose else 0, fun i hi => ?_⟩
      simp only [hi, dite_true]
      exact (hB i hi).choose_spec
    refine ⟨some a, len, cap, (List.range len).map f, rfl, by simp, fun j hj => ⟨a, rfl, ?_⟩⟩
    simp only [List.getElem_map, List.getElem_range]
    exact hf j (by simpa using hj)
theorem own41 : ownKnob Tryd.prog.godebug = none := by kernel_rfl
theorem laidOut41 : laidOutB Tryd.prog = true := by kernel_rfl
theorem heap8 {W : World} (h : laidMet Tryd.prog Rows.reportBackRow.laid W) : 8 ≤ W.heap.size := by
  obtain ⟨ps, ⟨g0, t0, cs0, f0, p0, q0, hg0, ht0, hv0, _⟩, _⟩ := h.tail
  have hg : Tryd.prog.globalNamed "math/bits.deBruijn64tab" = some 7 := by kernel_rfl
  unfold World.var? at hv0
  rw [hg] at hv0
  by_cases hlt : 8 ≤ W.heap.size
  · exact hlt
  · have hn : W.heap[7]? = none := by simp; omega
    simp [hn] at hv0
theorem env_of_laidH {W : World} (h : laidMetH Tryd.prog Rows.reportBackRow.laid W) : Env W := by
  have h1 : laidMet Tryd.prog Rows.reportBackRow.laid W := h
  exact env_of_laid (heap8 h1) h1
theorem laidWorld_met (os : Os) (args : Array Value) : laidMetH Tryd.prog Rows.reportBackRow.laid ((laidWorld os).forCall (fun _ _ => 0) ⟨#[], args, []⟩).memory :=
  laidMetH_of_parts (laid_met os args) (by kernel_rfl)
theorem readInt : Tryd.prog.readableRec 3 = true ∧ 3 < Tryd.prog.types.size := ⟨by kernel_rfl, of_decide_eq_true (by kernel_rfl)⟩
theorem readInts : Tryd.prog.readableRec 26 = true ∧ 26 < Tryd.prog.types.size := ⟨by kernel_rfl, of_decide_eq_true (by kernel_rfl)⟩
end Go.Proofs.YteeekdffbcbamaaDoor
