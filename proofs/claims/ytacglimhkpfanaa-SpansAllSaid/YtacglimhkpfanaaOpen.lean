/-
  AN ARGUMENT OPENED: a slice of channels (structs of three ints).
-/
import Derived.Test.YtacglimhkpfanaaDbl
import Derived.Test.YtacglimhkpfanaaRow
import Derived.Lib.SmallJoins
import Derived.Deep.Slices
namespace Go.Proofs.Ytacglimhkpfanaa
open Go.Joins Go.ChangeShapes Go.WideShapes Go.RowKit Go.Deep

theorem cells23 : Try.prog.cellsOf 23 = 3 := by kernel_rfl
theorem cells3 : Try.prog.cellsOf 3 = 1 := by kernel_rfl
theorem fields23 : ∃ f0 f1 f2 : Field, Try.prog.underlying 23 = some (.struct #[f0, f1, f2]) ∧ f0.type = 3 ∧ f1.type = 3 ∧ f2.type = 3 ∧ f0.offset = 0 ∧ f1.offset = 1 ∧ f2.offset = 2 :=
  ⟨_, _, _, Try.underlying23, rfl, rfl, rfl, rfl, rfl, rfl⟩

theorem open_chans {H : Type} {enc : TypeId × Value → H} {W : World} {r : Reach} {b0 : Nat} {v : Value} {d : DataW H} {p : List MemPlace} (hv : Value.okWide Try.prog W r b0 34 v)
    (h : DataW.Trod enc Try.prog W 0 (fun _ => true) true 34 v d p) : ∃ A len cap cs, v = .slice A len cap ∧ cs.length = len ∧ (A = none → len = 0 ∧ cap = 0) ∧ Reads3 W W.heap.size A cs := by
  obtain ⟨A, len, cap, rfl⟩ := okWide_slice Try.underlying34 hv
  obtain ⟨fuel, hf⟩ := h
  rcases open_slice Try.underlying34 hf with ⟨hcs, _⟩ | ⟨a, len', cap', m, n, D, Pl, hcs, _, hl, _, hmm, _, hi⟩
  · simp [Value.cells] at hcs
    obtain ⟨rfl, rfl, rfl⟩ := hcs
    exact ⟨none, 0, 0, [], rfl, rfl, fun _ => ⟨rfl, rfl⟩, fun j hj => absurd hj (by simp)⟩
  · simp [Value.cells] at hcs
    obtain ⟨rfl, rfl, rfl⟩ := hcs
    have hB : ∀ i, i < len → ∃ x : Plain.Tri, W.cell? (a.add (i * 3)) = some (.int .i64 x.1) ∧ W.cell? (a.add (i * 3 + 1)) = some (.int .i64 x.2.1) ∧ W.cell? (a.add (i * 3 + 2)) = some (.int .i64 x.2.2) := by
      intro i hil
      obtain ⟨cs', hc, ht⟩ := hi i (by simp at hmm; omega)
      rw [cells23] at hc
      obtain ⟨_, hcl, hat⟩ := World.cells?_some hc
      obtain ⟨f0, f1, f2, hu, t0, t1, t2, o0, o1, o2⟩ := fields23
      obtain ⟨xs, n', _, _, _, hxl, hg⟩ := DataW.trod_struct hu ht
      match cs', hcl, hat, hg with
      | [c0, c1, c2], _, hat, hg =>
        have g0 := hg 0 f0 rfl
        have g1 := hg 1 f1 rfl
        have g2 := hg 2 f2 rfl
        rw [t0, o0, cells3] at g0
        rw [t1, o1, cells3] at g1
        rw [t2, o2, cells3] at g2
        match xs, hxl with
        | [y0, y1, y2], _ =>
          obtain ⟨z0, e0, _⟩ := DataW.trod_int Try.underlying3 g0
          obtain ⟨z1, e1, _⟩ := DataW.trod_int Try.underlying3 g1
          obtain ⟨z2, e2, _⟩ := DataW.trod_int Try.underlying3 g2
          simp at e0 e1 e2
          subst e0 e1 e2
          refine ⟨(z0, z1, z2), ?_, ?_, ?_⟩
          · have := hat 0 (by omega)
            rw [add_add] at this
            exact this
          · have := hat 1 (by omega)
            rw [add_add] at this
            exact this
          · have := hat 2 (by omega)
            rw [add_add] at this
            exact this
    obtain ⟨f, hf⟩ : ∃ f : Nat → Plain.Tri, ∀ i, i < len → W.cell? (a.add (i * 3)) = some (.int .i64 (f i).1) ∧ W.cell? (a.add (i * 3 + 1)) = some (.int .i64 (f i).2.1) ∧ W.cell? (a.add (i * 3 + 2)) = some (.int .i64 (f i).2.2) := by
      refine ⟨fun i => if h : i < len then (hB i h).choose else (0, 0, 0), fun i hi => ?_⟩
      simp only [hi, dite_true]
      exact (hB i hi).choose_spec
    refine ⟨some a, len, cap, (List.range len).map f, rfl, by simp, (fun e => by cases e), ?_⟩
    intro j hj
    have hjl : j < len := by simpa using hj
    have hlt : a.block < W.heap.size := by
      have := block_of_cell (hf j hjl).1
      rwa [add_block] at this
    have hR := Reads3.mk (w := W) (B := W.heap.size) (ad := a) (cs := (List.range len).map f) hlt (fun i hi => by
      have hil : i < len := by simpa using hi
      simp only [List.getElem_map, List.getElem_range]
      exact hf i hil)
    exact hR j hj
end Go.Proofs.Ytacglimhkpfanaa
