/-
  AN ARGUMENT OPENED: a slice of sentences.
-/
import Derived.Test.YteeekdffbcbamaaGreatDoorG10
import Derived.Test.YteeekdffbcbamaaGreatDoorSameL
import Derived.Laws.IdiomArrays
namespace Go.Proofs.YteeekdffbcbamaaGreatDoor
open Go.Joins Go.ChangeShapes Go.WideShapes Go.RowKit Go.Deep
theorem cellsSn : Tryz.prog.cellsOf 28 = 14 := by kernel_rfl
theorem cellsA3 : Tryz.prog.cellsOf 26 = 3 := by kernel_rfl
theorem cellsIL : Tryz.prog.cellsOf 22 = 1 := by kernel_rfl
theorem cellsB1 : Tryz.prog.cellsOf 4 = 1 := by kernel_rfl
theorem cellsS1 : Tryz.prog.cellsOf 9 = 1 := by kernel_rfl
theorem fieldsSn : ∃ f0 f1 f2 f3 f4 f5 f6 f7 f8 f9 : Field, Tryz.prog.underlying 28 = some (.struct #[f0, f1, f2, f3, f4, f5, f6, f7, f8, f9]) ∧
    (f0.type = 3 ∧ f1.type = 3 ∧ f2.type = 4 ∧ f3.type = 26 ∧ f4.type = 26 ∧ f5.type = 22 ∧ f6.type = 3 ∧ f7.type = 3 ∧ f8.type = 3 ∧ f9.type = 9) ∧
    f0.offset = 0 ∧ f1.offset = 1 ∧ f2.offset = 2 ∧ f3.offset = 3 ∧ f4.offset = 6 ∧ f5.offset = 9 ∧ f6.offset = 10 ∧ f7.offset = 11 ∧ f8.offset = 12 ∧ f9.offset = 13 :=
  ⟨_, _, _, _, _, _, _, _, _, _, Tryz.underlying28, ⟨rfl, rfl, rfl, rfl, rfl, rfl, rfl, rfl, rfl, rfl⟩, rfl, rfl, rfl, rfl, rfl, rfl, rfl, rfl, rfl, rfl⟩
theorem il_of_trod {H : Type} {enc : TypeId × Value → H} {W : World} {fuel : Nat} {c : Value} {x : DataW H × List MemPlace}
    (hf : DataW.trod enc Tryz.prog W 0 (fun _ => true) true fuel 22 [c] = some x) : ∃ A len cap cs, c = .slice A len cap ∧ cs.length = len ∧ PrL W A cs := by
  rcases open_slice1 Tryz.underlying22 cellsI1 hf with ⟨hcs, _⟩ | ⟨a, len', cap', m, n, V, D, Pl, hcs, _, hl, hm, hmm, _, hx⟩
  · obtain rfl : c = .slice none 0 0 := by simpa using hcs
    exact ⟨none, 0, 0, [], rfl, rfl, fun j hj => absurd hj (by simp)⟩
  · obtain rfl : c = .slice (some a) len' cap' := by simpa using hcs
    have hB : ∀ i, i < len' → ∃ b : Int, W.cell? (a.add i) = some (.int .i64 b) := by
      intro i hi
      obtain ⟨h1, h2⟩ := hx i (by simp at hmm; omega)
      obtain ⟨b, hb, _⟩ := DataW.trod_int Tryz.underlying3 h2
      have e : V i = .int .i64 b := by simpa using hb
      exact ⟨b, by rw [h1, e]⟩
    obtain ⟨f, hf⟩ : ∃ f : Nat → Int, ∀ i, i < len' → W.cell? (a.add i) = some (.int .i64 (f i)) := by
      refine ⟨fun i => if h : i < len' then (hB i h).choose else 0, fun i hi => ?_⟩
      simp only [hi, dite_true]
      exact (hB i hi).choose_spec
    refine ⟨some a, len', cap', (List.range len').map f, rfl, by simp, fun j hj => ⟨a, rfl, ?_⟩⟩
    simp only [List.getElem_map, List.getElem_range]
    exact hf j (by simpa using hj)
set_option maxRecDepth 100000 in
theorem sn_of_trod {H : Type} {enc : TypeId × Value → H} {W : World} {fuel : Nat} {cs : List Value} {x : DataW H × List MemPlace} (hl : cs.length = 14)
    (ht : DataW.trod enc Tryz.prog W 0 (fun _ => true) true fuel 28 cs = some x) :
    ∃ (z : Plain.Sn) (v : Value), (∃ Aj cj, v = .slice Aj z.prns.length cj ∧ PrL W Aj z.prns) ∧ cs = (snCells z v).toList := by
  obtain ⟨f0, f1, f2, f3, f4, f5, f6, f7, f8, f9, hu, ⟨t0, t1, t2, t3, t4, t5, t6, t7, t8, t9⟩, o0, o1, o2, o3, o4, o5, o6, o7, o8, o9⟩ := fieldsSn
  obtain ⟨xs, n', _, _, _, hxl, hg⟩ := DataW.trod_struct hu ht
  match cs, hl with
  | [c0, c1, c2, c3, c4, c5, c6, c7, c8, c9, c10, c11, c12, c13], _ =>
    match xs, hxl with
    | [y0, y1, y2, y3, y4, y5, y6, y7, y8, y9], _ =>
      have g0 := hg 0 f0 rfl
      have g1 := hg 1 f1 rfl
      have g2 := hg 2 f2 rfl
      have g3 := hg 3 f3 rfl
      have g4 := hg 4 f4 rfl
      have g5 := hg 5 f5 rfl
      have g6 := hg 6 f6 rfl
      have g7 := hg 7 f7 rfl
      have g8 := hg 8 f8 rfl
      have g9 := hg 9 f9 rfl
      rw [t0, o0, cellsI1] at g0
      rw [t1, o1, cellsI1] at g1
      rw [t2, o2, cellsB1] at g2
      rw [t3, o3, cellsA3] at g3
      rw [t4, o4, cellsA3] at g4
      rw [t5, o5, cellsIL] at g5
      rw [t6, o6, cellsI1] at g6
      rw [t7, o7, cellsI1] at g7
      rw [t8, o8, cellsI1] at g8
      rw [t9, o9, cellsS1] at g9
      obtain ⟨z0, e0, _⟩ := DataW.trod_int Tryz.underlying3 g0
      obtain ⟨z1, e1, _⟩ := DataW.trod_int Tryz.underlying3 g1
      obtain ⟨z2, e2, _⟩ := DataW.trod_bool Tryz.underlying4 g2
      obtain ⟨_, _, _, n3, _, g30, g31, g32⟩ := trod_array3 (c0 := c3) (c1 := c4) (c2 := c5) Tryz.underlying26 cellsI1 g3
      obtain ⟨_, _, _, n4, _, g40, g41, g42⟩ := trod_array3 (c0 := c6) (c1 := c7) (c2 := c8) Tryz.underlying26 cellsI1 g4
      obtain ⟨z3, e3, _⟩ := DataW.trod_int Tryz.underlying3 g30
      obtain ⟨z4, e4, _⟩ := DataW.trod_int Tryz.underlying3 g31
      obtain ⟨z5, e5, _⟩ := DataW.trod_int Tryz.underlying3 g32
      obtain ⟨z6, e6, _⟩ := DataW.trod_int Tryz.underlying3 g40
      obtain ⟨z7, e7, _⟩ := DataW.trod_int Tryz.underlying3 g41
      obtain ⟨z8, e8, _⟩ := DataW.trod_int Tryz.underlying3 g42
      obtain ⟨A, len, cap, l, e9, hl, hP⟩ := il_of_trod (c := c9) g5
      obtain ⟨z10, e10, _⟩ := DataW.trod_int Tryz.underlying3 g6
      obtain ⟨z11, e11, _⟩ := DataW.trod_int Tryz.underlying3 g7
      obtain ⟨z12, e12, _⟩ := DataW.trod_int Tryz.underlying3 g8
      obtain ⟨z13, e13, _⟩ := DataW.trod_string Tryz.underlying9 g9
      simp at e0 e1 e2 e3 e4 e5 e6 e7 e8 e10 e11 e12 e13
      subst e0 e1 e2 e3 e4 e5 e6 e7 e8 e9 e10 e11 e12 e13 hl
      exact ⟨⟨z0, z1, z2, z3, z4, z5, z6, z7, z8, l, z10, z11, z12, z13⟩, .slice A l.length cap, ⟨A, cap, rfl, hP⟩, rfl⟩
set_option maxRecDepth 100000 in
theorem open_sns {H : Type} {enc : TypeId × Value → H} {W : World} {r : Reach} {b0 : Nat} {v : Value} {d : DataW H} {p : List MemPlace} (hv : Value.okWide Tryz.prog W r b0 23 v)
    (h : DataW.Trod enc Tryz.prog W 0 (fun _ => true) true 23 v d p) : ∃ A len cap es, v = .slice A len cap ∧ es.length = len ∧ SnAt W A es := by
  obtain ⟨A, len, cap, rfl⟩ := okWide_slice Tryz.underlying23 hv
  obtain ⟨fuel, hf⟩ := h
  rcases open_slice Tryz.underlying23 hf with ⟨hcs, _⟩ | ⟨a, len', cap', m, n, D, Pl, hcs, _, hl, _, hmm, _, hi⟩
  · simp [Value.cells] at hcs
    obtain ⟨rfl, rfl, rfl⟩ := hcs
    exact ⟨none, 0, 0, [], rfl, rfl, fun j hj => absurd hj (by simp)⟩
  · simp [Value.cells] at hcs
    obtain ⟨rfl, rfl, rfl⟩ := hcs
    have hB : ∀ i, i < len → ∃ z : Plain.Sn × Value, (∃ Aj cj, z.2 = .slice Aj z.1.prns.length cj ∧ PrL W Aj z.1.prns) ∧ ∀ k u, (snCells z.1 z.2)[k]? = some u → W.cell? ((a.add (i * 14)).add k) = some u := by
      intro i hil
      obtain ⟨cs', hc, ht⟩ := hi i (by simp at hmm; omega)
      rw [cellsSn] at hc
      obtain ⟨_, hcl, hat⟩ := World.cells?_some hc
      obtain ⟨z, v, hv, hcs⟩ := sn_of_trod hcl ht
      refine ⟨(z, v), hv, fun k u hk => ?_⟩
      have hk14 : k < 14 := by
        have := (Array.getElem?_eq_some_iff.1 hk).1
        simpa [snCells] using this
      rw [hat k hk14, hcs, Array.getElem?_toList]
      exact hk
    obtain ⟨f, hf⟩ : ∃ f : Nat → Plain.Sn × Value, ∀ i, i < len → (∃ Aj cj, (f i).2 = .slice Aj (f i).1.prns.length cj ∧ PrL W Aj (f i).1.prns) ∧ ∀ k u, (snCells (f i).1 (f i).2)[k]? = some u → W.cell? ((a.add (i * 14)).add k) = some u := by
      refine ⟨fun i => if h : i < len then (hB i h).choose else (⟨0, 0, false, 0, 0, 0, 0, 0, 0, [], 0, 0, 0, ⟨#[]⟩⟩, .slice none 0 0), fun i hi => ?_⟩
      simp only [hi, dite_true]
      exact (hB i hi).choose_spec
    refine ⟨some a, len, cap, (List.range len).map f, rfl, by simp, ?_⟩
    intro j hj
    have hjl : j < len := by simpa using hj
    have h0 := (hf 0 (by omega)).2 0 _ rfl
    obtain ⟨g, o, sp⟩ := a
    have hsp : sp = none := by
      have e : ((⟨g, o, sp⟩ : Addr).add (0 * 14)).add 0 = ⟨g, o, sp⟩ := rfl
      rw [e] at h0
      unfold World.cell? at h0
      split at h0
      · split at h0
        · cases h0
        · rename_i h; simpa using h
      · cases h0
    subst hsp
    refine ⟨g, o, rfl, ?_, fun k u hk => ?_⟩
    · simp only [List.getElem_map, List.getElem_range]
      exact (hf j hjl).1
    · simp only [List.getElem_map, List.getElem_range] at hk
      have := (hf j hjl).2 k u hk
      have e : ((⟨g, o, none⟩ : Addr).add (j * 14)).add k = ⟨g, o + j * 14 + k, none⟩ := by
        unfold Addr.add
        split <;> split <;> simp_all
      rwa [e] at this
theorem readSns : Tryz.prog.readableRec 23 = true ∧ 23 < Tryz.prog.types.size := ⟨by kernel_rfl, of_decide_eq_true (by kernel_rfl)⟩
end Go.Proofs.YteeekdffbcbamaaGreatDoor
