/-
  A ROW's LAST STEP for a law that answers true and writes nothing that was there: every argument reads as it did (whatever its type), out of 'Below' alone.
-/
import Derived.Below
import Derived.Carry
import Derived.ChangeSame
import Derived.WideKeyArgs
import Derived.ProofKit
import Derived.OpenShut
import Derived.Test.YteeekdffbcbamaaGreatDoorG6
import Derived.Test.YteeekdffbcbamaaGreatDoorG2
import Derived.Lib.SmallJoins
import Derived.Deep.Slices
namespace Go.Proofs.YteeekdffbcbamaaGreatDoor
open Go.RowKit Go.WideShapes Go.ChangeShapes

section
variable {H : Type} {enc : TypeId × Value → H} {P : Program}

theorem trodAll_stays {W W' : World} (hl : laidOutB P = true) (hb : Below W.heap.size W W') (sp : Nat → Bool) :
    ∀ (ts : List TypeId) (vs : List Value) (ds : List (DataW H)) (ps : List MemPlace), (∀ t ∈ ts, P.readableRec t = true ∧ t < P.types.size) →
      DataW.TrodAll enc P W 0 (fun _ => true) true ts vs ds ps → (∀ p ∈ ps, p.block < W.heap.size) → (∀ p ∈ ps, sp p.block = true) → DataW.TrodAll enc P W' 0 sp true ts vs ds ps := by
  intro ts
  induction ts with
  | nil =>
    intro vs ds ps _ h _ _
    obtain ⟨rfl, rfl, rfl⟩ := trodAll_nil h
    exact trodAll_mk0
  | cons t ts ih =>
    intro vs ds ps hr h hlt hsp
    obtain ⟨v, vs', d, ds', p, q, rfl, rfl, rfl, h1, h2⟩ := trodAll_cons h
    refine trodAll_cons_mk ?_ (ih vs' ds' q (fun t' ht => hr t' (List.mem_cons_of_mem _ ht)) h2 (fun x hx => hlt x (List.mem_append_right _ hx)) (fun x hx => hsp x (List.mem_append_right _ hx)))
    have hk := hr t List.mem_cons_self
    exact WideElems.Trod_stays hl hk.1 hk.2 h1 (fun x hx => hb.same (hlt x (List.mem_append_left _ hx))) (fun x hx => hsp x (List.mem_append_left _ hx))

/-- The law's post: one bool, true; the arguments as they were; the specification names no variable. -/
theorem law_post {f : Func} {s : ChangeSpec} {W W' : World} {args : Array Value} {ds gs : List (DataW H)} {before : List MemPlace} {tb : TypeId}
    (hl : laidOutB P = true) (hr : ∀ t ∈ f.params.toList, P.readableRec t = true ∧ t < P.types.size)
    (hvars : s.vars = []) (ht : f.resultTypes = #[tb]) (hu : P.underlying tb = some .bool)
    (hs : s.fn H (ds ++ gs) = { results := [.lit (.bool true)], args := ds })
    (hW : DataW.Whole enc P f.params.toList s.vars false W args.toList ds gs before) (hb : Below W.heap.size W W') :
    s.post enc P f false true false false W args (.bool true) W' := by
  have hlt : ∀ p ∈ before, p.block < W.heap.size := fun p hp => hW.lt p hp
  have hW0 := hW
  obtain ⟨p, q, hA, hV, rfl, hz, hn⟩ := hW
  have hV' := hV
  rw [hvars] at hV'
  obtain ⟨hg, hq⟩ := trodVars_none hV'
  subst hg
  subst hq
  refine ⟨ds, [], p ++ [], [], p, [], hW0, ?_, ?_, ?_, World.keptBut_mono (fun x hx => ⟨hx, ?_⟩) (hb.frame (· ∈ p ++ [])), fun h => by cases h⟩
  · rw [hs, ht]
    exact trodAll_mk1 (shut_bool hu true)
  · rw [hs]
    exact trodAll_stays hl hb _ _ _ _ _ hr hA (fun x hx => hlt x (by simpa using hx)) (fun x hx => by simpa using hlt x (by simpa using hx))
  · rw [hvars, hs]
    exact rfl
  · exact Or.inr (Or.inl (by simpa using hx))
end
end Go.Proofs.YteeekdffbcbamaaGreatDoor
/-
  AN ARGUMENT OPENED: a slice of integers; the heap that holds the listed variables.
-/
namespace Go.Proofs.YteeekdffbcbamaaGreatDoor
open Go.Joins Go.ChangeShapes Go.WideShapes Go.RowKit Go.Deep

theorem cellsI1 : Tryz.prog.cellsOf 3 = 1 := by kernel_rfl
set_option maxRecDepth 100000 in
theorem open_il {H : Type} {enc : TypeId × Value → H} {W : World} {r : Reach} {b0 : Nat} {v : Value} {d : DataW H} {p : List MemPlace} (hv : Value.okWide Tryz.prog W r b0 22 v)
    (h : DataW.Trod enc Tryz.prog W 0 (fun _ => true) true 22 v d p) : ∃ A len cap cs, v = .slice A len cap ∧ cs.length = len ∧ PrL W A cs := by
  obtain ⟨A, len, cap, rfl⟩ := okWide_slice Tryz.underlying22 hv
  obtain ⟨fuel, hf⟩ := h
  rcases open_slice1 Tryz.underlying22 cellsI1 hf with ⟨hcs, _⟩ | ⟨a, len', cap', m, n, V, D, Pl, hcs, _, hl, hm, hmm, _, hx⟩
  · simp [Value.cells] at hcs
    obtain ⟨rfl, rfl, rfl⟩ := hcs
    exact ⟨none, 0, 0, [], rfl, rfl, fun j hj => absurd hj (by simp)⟩
  · simp [Value.cells] at hcs
    obtain ⟨rfl, rfl, rfl⟩ := hcs
    have hB : ∀ i, i < len → ∃ b : Int, W.cell? (a.add i) = some (.int .i64 b) := by
      intro i hi
      obtain ⟨h1, h2⟩ := hx i (by simp at hmm; omega)
      obtain ⟨b, hb, _⟩ := DataW.trod_int Tryz.underlying3 h2
      have e : V i = .int .i64 b := by simpa using hb
      exact ⟨b, by rw [h1, e]⟩
    obtain ⟨f, hf⟩ : ∃ f : Nat → Int, ∀ i, i < len → W.cell? (a.add i) = some (.int .i64 (f i)) := by
      refine ⟨fun i => if h : i < len then (hB i h).choose else 0, fun i hi => ?_⟩
      simp only [hi, dite_true]
      exact (hB i hi).choose_spec
    refine ⟨some a, len, cap, (List.range len).map f, rfl, by simp, fun j hj => ⟨a, rfl, ?_⟩⟩
    simp only [List.getElem_map, List.getElem_range]
    exact hf j (by simpa using hj)
theorem own41 : ownKnob Tryz.prog.godebug = none := by kernel_rfl
theorem laidOut41 : laidOutB Tryz.prog = true := by kernel_rfl
theorem heap8 {W : World} (h : laidMet Tryz.prog Rows.reportParsesRow.laid W) : 8 ≤ W.heap.size := by
  obtain ⟨ps, ⟨g0, t0, cs0, f0, p0, q0, hg0, ht0, hv0, _⟩, _⟩ := h.tail
  have hg : Tryz.prog.globalNamed "math/bits.deBruijn64tab" = some 7 := by kernel_rfl
  unfold World.var? at hv0
  rw [hg] at hv0
  by_cases hlt : 8 ≤ W.heap.size
  · exact hlt
  · have hn : W.heap[7]? = none := by simp; omega
    simp [hn] at hv0
theorem env_of_laidH {W : World} (h : laidMetH Tryz.prog Rows.reportParsesRow.laid W) : Env W := by
  have h1 : laidMet Tryz.prog Rows.reportParsesRow.laid W := h
  exact env_of_laid (heap8 h1) h1
theorem laidWorld_met (os : Os) (args : Array Value) : laidMetH Tryz.prog Rows.reportParsesRow.laid ((laidWorld os).forCall (fun _ _ => 0) ⟨#[], args, []⟩).memory :=
  laidMetH_of_parts (laid_met os args) (by kernel_rfl)
theorem readInt : Tryz.prog.readableRec 3 = true ∧ 3 < Tryz.prog.types.size := ⟨by kernel_rfl, of_decide_eq_true (by kernel_rfl)⟩
theorem readInts : Tryz.prog.readableRec 22 = true ∧ 22 < Tryz.prog.types.size := ⟨by kernel_rfl, of_decide_eq_true (by kernel_rfl)⟩
end Go.Proofs.YteeekdffbcbamaaGreatDoor
