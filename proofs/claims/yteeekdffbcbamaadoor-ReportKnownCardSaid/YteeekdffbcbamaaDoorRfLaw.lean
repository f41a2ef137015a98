/-
  A RANGE OVER A FUNCTION whose iterator keeps its own place in a box (one block that it writes between two rounds): a law for a body that never leaves the loop. Condition: the iterator hands over a list that is known beforehand.
-/
import Derived.RangeFuncWrites
import Derived.RangeFuncBound
import Derived.RangeFuncCalls
import Derived.RangeFuncLeaves
import Derived.RangeFuncBox
namespace Go.Proofs.YteeekdffbcbamaaDoor
open Go.RowKit

section
variable {α : Type} {P : Program}
/-- What the iterator's steps leave be: a turn of its box alone, and new blocks. -/
def BoxAbides (bx : Nat) (J : List α → World → Prop) : Prop :=
  ∀ pre A B row, J pre A → A.grownBy B row → (∀ r, row = some r → r = bx) → J pre B
/-- The iterator's word: the elements of xs come, one by one. -/
def IterBox (P : Program) (gf : Nat) (lb : Array Value) (encs : α → Array Value) (bx : Nat) (xs : List α) (w : World) : Prop :=
  ∀ (l : Nat) (J : List α → World → Prop) (W : World), Below w.heap.size w W → BoxAbides bx J →
    (∀ pre x W1, J pre W1 → pre ++ [x] <+: xs → YieldAt Fence.wide 1 P l (encs x) W1 fun e W' => e = .returned (.bool true) ∧ J (pre ++ [x]) W' ∧ W1.heap.size ≤ W'.heap.size ∧ W'.heap[bx]? = W1.heap[bx]?) →
    J [] W → CallsIn Fence.wide 2 P gf (#[.func (.yield l) #[] #[]] ++ lb) W fun e W' => (∃ v, e = .returned v) ∧ J xs W'
/-- How the body of a round is left. -/
def boxPost (B bx : Nat) (I : List α → World → Prop) (xs : List α) (W : World) : Exit → Act → World → Prop
  | .normal, _, W' => KeepsFrom B W W' ∧ W'.heap[bx]? = W.heap[bx]? ∧ I xs W'
  | _, _, _ => False
/-- The caller's invariant: a turn of the iterator's box, or of a block from B on that is no cells, leaves it be. -/
def BoxOwn (B bx : Nat) (I : List α → World → Prop) : Prop :=
  ∀ pre W W' row, I pre W → W.grownBy W' row → (∀ r, row = some r → r = bx ∨ (B ≤ r ∧ ∃ o : Obj, W.heap[r]? = some o ∧ o.isCells = false)) → I pre W'
theorem BoxOwn.alloc {B bx : Nat} {I : List α → World → Prop} (h : BoxOwn B bx I) {pre : List α} {W : World} (o : Obj) (hs : I pre W) : I pre (W.alloc o) :=
  h pre W _ none hs (World.grownBy_alloc W o none) (fun r e => by cases e)
theorem BoxOwn.turn {B bx : Nat} {I : List α → World → Prop} (h : BoxOwn B bx I) {pre : List α} {W : World} {l : Nat} {o : Obj} (o' : Obj) (hs : I pre W) (hB : B ≤ l) (hl : W.heap[l]? = some o) (ho : o.isCells = false) : I pre (W.putObj l o') :=
  h pre W _ (some l) hs (grownBy_putObj' W l o') (fun r e => by cases e; exact Or.inr ⟨hB, o, hl, ho⟩)
theorem box_stays {A B : World} {row : Option Nat} {bx k : Nat} {o : Obj} (hg : A.grownBy B row) (hr : ∀ r, row = some r → r = bx) (hk : A.heap[k]? = some o) (hne : k ≠ bx) : B.heap[k]? = some o :=
  (hg.block k (Array.getElem?_eq_some_iff.1 hk).1 (fun e => hne (hr k e.symm))).trans hk

theorem wpIn_rangeBox {g : Operand} {ps : Array Tmp} {assign body : Code} {Q : Exit → Act → World → Prop} {a : Act} {w : World}
    {gf : Nat} {lb : Array Value} (hg : a.eval g = .func (.func gf) #[] lb) (eg : ∀ args w, (callFunc gf args).run P w = .ok (.enter gf args) w)
    {encs : α → Array Value} (hps : ∀ x, (encs x).size = ps.size) (bx : Nat) (hbx : bx < w.heap.size) (xs : List α) (hseq : IterBox P gf lb encs bx xs w)
    (I : List α → World → Prop) (hI : BoxOwn w.heap.size bx I) (h0 : I [] w) (a₁ : α → Act)
    (hassign : ∀ (l : Nat) (x : α) (W : World) (K : Act → World → Prop), K (a₁ x) W →
      assign.wpIn (Fence.wide.inRound l) 1 P (Exit.then K (fun _ _ _ => False)) { tmps := (ps.zip (encs x)).foldl (fun t (p, v) => t.setIfInBounds p v) a.tmps, defers := [] } W)
    (hbody : ∀ (l : Nat) (pre : List α) (x : α) (W : World), I pre W → pre ++ [x] <+: xs → body.wpIn (Fence.wide.inRound l) 1 P (boxPost w.heap.size bx I (pre ++ [x]) W) (a₁ x) W)
    (hdone : ∀ (D : Nat) (W : World), w.heap.size ≤ D → I xs W → W.heap[D]? = some (.deferred (some [])) → Q .normal { a with defers := { target := .collected D, args := #[] } :: a.defers } W) :
    (Code.rangeFunc g ps assign body).wpIn Fence.wide 3 P Q a w := by
  refine wpIn_rangeFunc ?_
  intro fn hfn
  obtain ⟨rec, hrec⟩ : ∃ rec : LoopState → Loop, rec = fun st => { state := st, pending := none, fn, tmps := a.tmps, params := ps, assign, body, defers := w.heap.size } := ⟨_, rfl⟩
  obtain ⟨W1, hW1⟩ : ∃ W1, (w.alloc (.deferred (some []))).alloc (.loop (rec .ready)) = W1 := ⟨_, rfl⟩
  have hL1 : W1.heap[w.heap.size + 1]? = some (.loop (rec .ready)) := by
    rw [← hW1]; have := World.alloc_heap_new (w.alloc (.deferred (some []))) (.loop (rec .ready)); rwa [World.size_alloc] at this
  have hK1 : W1.heap[w.heap.size]? = some (.deferred (some [])) := by
    rw [← hW1]; exact (Below.heap_alloc _ _ _ (by simp)).trans (World.alloc_heap_new w _)
  have hI1 : I [] W1 := by rw [← hW1]; exact hI.alloc _ (hI.alloc _ h0)
  have hb1 : Below w.heap.size w W1 := by
    rw [← hW1]; exact ((Below.refl _ w).alloc (Nat.le_refl _) _).alloc (by simp) _
  refine ⟨w.heap.size + 1, [{ target := .collected w.heap.size, args := #[] }], W1, { target := .fn (.func gf) lb, args := #[.func (.yield (w.heap.size + 1)) #[] #[]] }, W1, gf,
    #[.func (.yield (w.heap.size + 1)) #[] #[]] ++ lb, W1, ?_, ?_, fun _ _ => trivial, ?_, fun _ => by omega, ?_⟩
  · rw [← hW1, hrec]; exact run_enterLoop_outer _ _ _ _ _
  · simp only [resolve, hg]
    simp [go_sem]
  · simp [invoke, go_sem, eg]
  · refine (hseq (w.heap.size + 1) (fun pre W => I pre W ∧ W.heap[w.heap.size + 1]? = some (.loop (rec .ready)) ∧ W.heap[w.heap.size]? = some (.deferred (some []))) W1 hb1
      (fun pre A B row hs hg' hr => ⟨hI pre A B row hs.1 hg' (fun r e => Or.inl (hr r e)), box_stays hg' hr hs.2.1 (by omega), box_stays hg' hr hs.2.2 (by omega)⟩) ?_ ⟨hI1, hL1, hK1⟩).mono ?_
    · rintro pre x W ⟨hi, hl, hk⟩ hpre
      have hlt : w.heap.size + 1 < W.heap.size := (Array.getElem?_eq_some_iff.1 hl).1
      have hy := run_yield (P := P) (args := encs x) hl (by rw [hrec]; exact hps x)
      rw [hrec] at hy
      refine ⟨fn, _, assign, body, hy, roundIn_of_wpIn hfn (hassign _ x W _ ⟨_, run_beginRound hl (by rw [hrec]), ?_⟩)⟩
      obtain ⟨W2, hW2⟩ : ∃ W2, W.putObj (w.heap.size + 1) (.loop { rec .ready with state := .busy }) = W2 := ⟨_, rfl⟩
      have hl2 : W2.heap[w.heap.size + 1]? = some (.loop { rec .ready with state := .busy }) := by rw [← hW2]; exact World.putObj_heap_same hlt
      have hk2 : W2.heap[w.heap.size]? = some (.deferred (some [])) := by rw [← hW2]; exact (World.putObj_heap_other (by omega)).trans hk
      have hx2 : W2.heap[bx]? = W.heap[bx]? := by rw [← hW2]; exact World.putObj_heap_other (by omega)
      have hs2 : W2.heap.size = W.heap.size := by rw [← hW2]; exact World.putObj_size
      have hi2 : I pre W2 := by rw [← hW2]; exact hI.turn _ hi (by omega) hl rfl
      rw [hW2]
      refine wpIn_mono (hbody _ pre x W2 hi2 hpre) ?_
      rintro e a3 W3 hp
      cases e with
      | normal =>
        obtain ⟨hk3, hx3, hi3⟩ := hp
        have hl3 := hk3.same _ _ (by omega) hl2 rfl
        have hd3 := hk3.same _ _ (Nat.le_refl _) hk2 rfl
        have hr := run_endRound (P := P) none hl3
        rw [hrec] at hr hl3
        refine ⟨_, _, hr, rfl, ⟨hI.turn _ hi3 (by omega) hl3 rfl, ?_, (World.putObj_heap_other (by omega)).trans hd3⟩, ?_, ?_⟩
        · rw [hrec]; exact World.putObj_heap_same (Array.getElem?_eq_some_iff.1 hl3).1
        · rw [World.putObj_size]; exact Nat.le_trans (Nat.le_of_eq hs2.symm) hk3.size
        · exact (World.putObj_heap_other (by omega)).trans (hx3.trans hx2)
      | ret => exact hp.elim
      | exit id => exact hp.elim
      | goto t => exact hp.elim
      | panic ch => exact hp.elim
      | outgrown => exact hp.elim
    · rintro e W2 ⟨⟨v, rfl⟩, hi, hl, hk⟩
      exact ⟨none, _, by have := run_endLoop (P := P) hl (by rw [hrec]; simp); rw [hrec] at this; exact this, hdone _ _ (Nat.le_refl _) (hI.turn _ hi (by omega) hl rfl) ((World.putObj_heap_other (by omega)).trans hk)⟩
end
end Go.Proofs.YteeekdffbcbamaaDoor
