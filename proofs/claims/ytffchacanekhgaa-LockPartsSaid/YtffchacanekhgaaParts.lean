/-
  THE STATEMENT LockPartsSaid: LockParts returns true for every input, and every argument reads as before. No condition.
-/
import Derived.Test.YtffchacanekhgaaRows
import Derived.Test.YtffchacanekhgaaRow
import Derived.Test.YtffchacanekhgaaPartsWalk
import Derived.Test.YtffchacanekhgaaPartsNil
import Derived.Lib.SmallJoins
import Derived.Test.YtffchacanekhgaaOpen
namespace Go.Proofs.Ytffchacanekhgaa.lockParts
open Go.ChangeShapes Go.WideShapes Go.ChangeAt Go.RowKit Go.Joins

theorem open_bl2 {H : Type} {enc : TypeId × Value → H} {W : World} {r : Reach} {b0 : Nat} {v : Value} {d : DataW H} {p : List MemPlace} (hv : Value.okWide Try.prog W r b0 24 v)
    (h : DataW.Trod enc Try.prog W 0 (fun _ => true) true 24 v d p) : v = .slice none 0 0 ∨ ∃ ad len cap cs, v = .slice (some ad) len cap ∧ cs.length = len ∧ len ≤ cap ∧ ReadsB W W.heap.size (some ad) cs := by
  obtain ⟨A, len, cap, rfl⟩ := okWide_slice Try.underlying24 hv
  have h' := h
  obtain ⟨A', len', cap', cs, e, hl, _, hr⟩ := open_bl hv h'
  cases e
  obtain ⟨fuel, hf⟩ := h
  rcases Go.Deep.open_slice1 Try.underlying24 cells4 hf with ⟨hcs, _⟩ | ⟨a, len', cap', m, n, V, D, Pl, hcs, _, hl', hm, hmm, _, hx⟩
  · simp [Value.cells] at hcs
    obtain ⟨rfl, rfl, rfl⟩ := hcs
    exact Or.inl rfl
  · simp [Value.cells] at hcs
    obtain ⟨rfl, rfl, rfl⟩ := hcs
    exact Or.inr ⟨a, len, cap, cs, rfl, hl, hl', hr⟩

theorem lockParts_walk (a0 a1 a2 : Int) (v : Value) (w : World) (h : v = .slice none 0 0 ∨ ∃ ad len cap cs, v = .slice (some ad) len cap ∧ cs.length = len ∧ len ≤ cap ∧ ReadsB w w.heap.size (some ad) cs) :
    Calls Try.prog 7 #[.int .i64 a0, .int .i64 a1, .int .i64 a2, v] w fun e w' => e = .returned (.bool true) ∧ Below w.heap.size w w' := by
  rcases h with rfl | ⟨ad, k, c, cs, rfl, hl, hc, hr⟩
  · exact parts_none a0 a1 a2 w _ _ rfl rfl
  · by_cases hk : k ≤ 200
    · have h0 := Int.emod_nonneg a2 (b := (k : Int) + 1) (by omega)
      obtain ⟨q, hq⟩ : ∃ q : Nat, a2 % ((k : Int) + 1) = q := ⟨(a2 % ((k : Int) + 1)).toNat, by omega⟩
      exact parts_some a0 a1 a2 ad k c q cs w hk hl hc hr _ _ rfl rfl hq
    · exact parts_long a0 a1 a2 (some ad) k c w (by omega)
theorem own : ownKnob Try.prog.godebug = none := by kernel_rfl
theorem laidOut : laidOutB Try.prog = true := by kernel_rfl
theorem readable3 : Try.prog.readableRec 3 = true ∧ 3 < Try.prog.types.size := ⟨by kernel_rfl, of_decide_eq_true (by kernel_rfl)⟩
theorem readable24 : Try.prog.readableRec 24 = true ∧ 24 < Try.prog.types.size := ⟨by kernel_rfl, of_decide_eq_true (by kernel_rfl)⟩

set_option maxRecDepth 100000 in
theorem lifted (os : Os) (started : os.Started) (H : Type) (enc : TypeId × Value → H) :
    ReturnsInHanded {} Try.checked os 7 .any (Rows.lockPartsSpec.pre6 enc Try.prog Try.f7 Rows.lockPartsRow.domain false) (Rows.lockPartsSpec.post enc Try.prog Try.f7 false true false false) := by
  refine returnsInHanded_of_change (C := Try.checked) own started (by kernel_rfl) Try.func7
    (ChangeSpec.witness6 (enc := enc) (C := Try.checked) false ⟨#[], #[.int .i64 0, .int .i64 0, .int .i64 0, .slice none 0 0], []⟩ 8 (by kernel_rfl) (by kernel_rfl) (by kernel_rfl) (by kernel_rfl)) ?_
  intro W base args ds gs before hval0 hW _ _
  have hval : ∀ (j : Nat) t v, Try.f7.params[j]? = some t → args[j]? = some v → Value.okWide Try.prog W .any base t v := hval0
  have hW' := hW
  obtain ⟨p, q, hA0, hV, rfl, _, _⟩ := hW
  have hA : DataW.TrodAll enc Try.prog W 0 (fun _ => true) true Try.f7.params.toList args.toList ds p := hA0
  rw [Try.params7] at hA hval
  obtain ⟨v0, vs0, d0, ds0, p0, q0, hargs, rfl, rfl, h0, r0⟩ := trodAll_cons hA
  obtain ⟨v1, vs1, d1, ds1, p1, q1, rfl, rfl, rfl, h1, r1⟩ := trodAll_cons r0
  obtain ⟨v2, vs2, d2, ds2, p2, q2, rfl, rfl, rfl, h2, r2⟩ := trodAll_cons r1
  obtain ⟨v3, vs3, d3, ds3, p3, q3, rfl, rfl, rfl, h3, r3⟩ := trodAll_cons r2
  obtain ⟨rfl, rfl, rfl⟩ := trodAll_nil r3
  obtain rfl : args = #[v0, v1, v2, v3] := by cases args; simp_all
  obtain ⟨rfl, rfl⟩ := trodVars_none hV
  obtain ⟨a0, rfl, rfl, rfl, w0⟩ := open_int Try.underlying3 (hval 0 3 v0 rfl rfl) h0
  obtain ⟨a1, rfl, rfl, rfl, w1⟩ := open_int Try.underlying3 (hval 1 3 v1 rfl rfl) h1
  obtain ⟨a2, rfl, rfl, rfl, w2⟩ := open_int Try.underlying3 (hval 2 3 v2 rfl rfl) h2
  have hv3 := open_bl2 (hval 3 24 v3 rfl rfl) h3
  clear hA0 hval0
  refine (lockParts_walk a0 a1 a2 v3 W hv3).mono fun e W' ⟨he, hb⟩ => ?_
  subst he
  refine ⟨_, rfl, law_post laidOut ?_ rfl rfl Try.underlying4 rfl hW' hb⟩
  rw [Try.params7]
  intro t ht
  simp only [List.mem_cons, List.not_mem_nil, or_false] at ht
  rcases ht with rfl | rfl | rfl | rfl
  · exact readable3
  · exact readable3
  · exact readable3
  · exact readable24

theorem over : Rows.lockPartsRow.holds Try.pinned (OpenSpec.ofChange Rows.lockPartsSpec) :=
  OpenClaim.holds_of_wide 7 Try.f7 rfl rfl rfl rfl rfl rfl rfl ⟨rfl, rfl, rfl, rfl, rfl⟩ rfl rfl rfl rfl rfl (by kernel_rfl) Try.func7 (by kernel_rfl)
    (of_decide_eq_true (by kernel_rfl)) (by unfold Func.isWrapper; first | (rw [if_pos (by decide +kernel)]; kernel_rfl) | (rw [if_neg (by decide +kernel)]; exact ⟨rfl, rfl⟩))
    (fun os started H enc _ => lifted os started H enc)

/-- The statement. -/
theorem proved : Rows.LockPartsSaid :=
  over
#print axioms proved
end Go.Proofs.Ytffchacanekhgaa.lockParts
