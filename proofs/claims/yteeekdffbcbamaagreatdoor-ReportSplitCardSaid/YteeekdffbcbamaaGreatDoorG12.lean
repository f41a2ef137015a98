/-
  PLAIN: the lines of a text, with their numbers.
-/
import Derived.Test.YteeekdffbcbamaaGreatDoorG4
import Derived.RangeFuncWrites
import Derived.RangeFuncBound
import Derived.RangeFuncCalls
import Derived.RangeFuncLeaves
import Derived.RangeFuncBox
import Derived.Test.YteeekdffbcbamaaGreatDoorField
import Derived.Shelf.Abstract
import Derived.Shelf.RegionOpen
import Derived.WalkKit
import Derived.OwnWalkIn
import Derived.TacticsInMore
import Derived.LoopNIn
import Derived.LoopIn
import Derived.Test.YteeekdffbcbamaaGreatDoorG11
import Derived.Test.YteeekdffbcbamaaGreatDoorParseZ
import Derived.Test.YteeekdffbcbamaaGreatDoorG1
import Derived.Test.YteeekdffbcbamaaGreatDoorG6
import Derived.Test.YteeekdffbcbamaaGreatDoorG5
import Derived.Maps.OwnIn
import Derived.Maps.AppendAt
namespace Go.Proofs.YteeekdffbcbamaaGreatDoor.Plain

/-- The first line of a text, and what stands behind its line feed. -/
def pieceN (g : ByteArray) : Nat := upto g.data.toList 10
def linesF : Nat → ByteArray → List ByteArray
  | 0, _ => []
  | f + 1, g => if g.size = 0 then [] else g.extract 0 (pieceN g) :: linesF f (restB g (pieceN g))
def numF : Nat → List ByteArray → List (Nat × ByteArray)
  | _, [] => []
  | i, p :: r => (i, p) :: numF (i + 1) r
def lines (s : ByteArray) : List (Nat × ByteArray) := numF 0 (linesF s.size s)
theorem rest_lt {g : ByteArray} (h : g.size ≠ 0) : (restB g (pieceN g)).size < g.size := by
  unfold restB
  split
  · rw [ByteArray.size_extract]; omega
  · show 0 < g.size; omega
theorem linesF_step {f : Nat} {g : ByteArray} (h : g.size ≠ 0) : linesF (f + 1) g = g.extract 0 (pieceN g) :: linesF f (restB g (pieceN g)) := by
  rw [linesF, if_neg h]
theorem linesF_none {f : Nat} {g : ByteArray} (h : g.size = 0) : linesF f g = [] := by
  cases f with
  | zero => rfl
  | succ f => rw [linesF, if_pos h]
theorem piece_size (g : ByteArray) : (g.extract 0 (pieceN g)).size ≤ g.size := by
  rw [ByteArray.size_extract]; omega
theorem bytes_eq0 {g : ByteArray} (h : g.size = 0) : g = ⟨#[]⟩ := by
  cases g with
  | mk d =>
    have : d = #[] := Array.eq_empty_of_size_eq_zero h
    rw [this]
theorem bytes_ne2 {g : ByteArray} (h : g.size ≠ 0) : ¬ g.data.toList = [] := by
  intro e
  apply h
  rw [← len_size, e]
  rfl
theorem bytes_ne1 {g : ByteArray} (h : g.size ≠ 0) : (g.data.toList == []) = false := by
  simpa using bytes_ne2 h
/-- The sentences of lines, and the numbers of the lines that are none. -/
def goodL (xs : List (Nat × ByteArray)) : List Sn := xs.filterMap fun x => if (parse x.2).2.1 = 0 then some (parse x.2).1 else none
def badL (xs : List (Nat × ByteArray)) : List Int := xs.filterMap fun x => if (parse x.2).2.1 = 0 then none else some (x.1 : Int)
theorem goodL_yes {pre : List (Nat × ByteArray)} {x : Nat × ByteArray} (h : (parse x.2).2.1 = 0) : goodL (pre ++ [x]) = goodL pre ++ [(parse x.2).1] ∧ badL (pre ++ [x]) = badL pre := by
  unfold goodL badL
  rw [List.filterMap_append, List.filterMap_append]
  simp [h]
theorem goodL_no {pre : List (Nat × ByteArray)} {x : Nat × ByteArray} (h : (parse x.2).2.1 ≠ 0) : goodL (pre ++ [x]) = goodL pre ∧ badL (pre ++ [x]) = badL pre ++ [(x.1 : Int)] := by
  unfold goodL badL
  rw [List.filterMap_append, List.filterMap_append]
  simp [h]
theorem good_len (pre : List (Nat × ByteArray)) : (goodL pre).length ≤ pre.length ∧ (badL pre).length ≤ pre.length := ⟨List.length_filterMap_le _ _, List.length_filterMap_le _ _⟩
theorem numF_len : ∀ (i : Nat) (l : List ByteArray), (numF i l).length = l.length
  | _, [] => rfl
  | i, p :: r => by
    show (numF (i + 1) r).length + 1 = r.length + 1
    rw [numF_len]
theorem linesF_len : ∀ (f : Nat) (g : ByteArray), (linesF f g).length ≤ f
  | 0, _ => Nat.le_refl _
  | f + 1, g => by
    unfold linesF
    split
    · exact Nat.zero_le _
    · rw [List.length_cons]
      have := linesF_len f (restB g (pieceN g))
      omega
theorem lines_len (s : ByteArray) : (lines s).length ≤ s.size := by
  unfold lines
  rw [numF_len]
  exact linesF_len _ _
theorem linesF_size : ∀ (f : Nat) (g : ByteArray), ∀ p ∈ linesF f g, p.size ≤ g.size
  | 0, _, p, h => by simp [linesF] at h
  | f + 1, g, p, h => by
    by_cases h0 : g.size = 0
    · rw [linesF_none h0] at h; simp at h
    · rw [linesF_step h0] at h
      rcases List.mem_cons.1 h with rfl | h
      · exact piece_size g
      · exact Nat.le_trans (linesF_size f _ p h) (Nat.le_of_lt (rest_lt h0))
theorem numF_mem : ∀ (i : Nat) (l : List ByteArray), ∀ x ∈ numF i l, x.2 ∈ l
  | _, [], x, h => by simp [numF] at h
  | i, p :: r, x, h => by
    rcases List.mem_cons.1 (show x ∈ (i, p) :: numF (i + 1) r from h) with rfl | h
    · exact List.mem_cons_self
    · exact List.mem_cons_of_mem _ (numF_mem (i + 1) r x h)
theorem lines_size (s : ByteArray) : ∀ x ∈ lines s, x.2.size ≤ s.size := fun x h => linesF_size _ _ _ (numF_mem _ _ x h)
end Go.Proofs.YteeekdffbcbamaaGreatDoor.Plain
/-
  PLAIN: the lines of a text, found byte by byte.
-/
namespace Go.Proofs.YteeekdffbcbamaaGreatDoor.Plain

/-- What stands from a place on. -/
def tailB (s : ByteArray) (a : Nat) : ByteArray := s.extract a s.size
theorem tail_size (s : ByteArray) (a : Nat) : (tailB s a).size = s.size - a := by
  unfold tailB
  rw [ByteArray.size_extract]
  omega
theorem tail_list (s : ByteArray) (a : Nat) : (tailB s a).data.toList = s.data.toList.drop a := by
  unfold tailB
  rw [extract_list, List.take_of_length_le]
  rw [List.length_drop, len_size]
  omega
theorem upto_hit : ∀ {l : List UInt8} {c : UInt8}, upto l c < l.length → l[upto l c]? = some c
  | [], _, h => by simp at h
  | x :: xs, c, h => by
    rw [upto_cons] at h ⊢
    by_cases e : x = c
    · rw [if_pos e, e]; rfl
    · rw [if_neg e] at h ⊢
      rw [List.getElem?_cons_succ]
      exact upto_hit (by simpa using h)
/-- Where a walk over the bytes stands: the lines ahead, the number of this line, where it began. -/
def SegI (s : ByteArray) (pre : List (Nat × ByteArray)) (k line fr : Nat) : Prop :=
  fr ≤ k ∧ line ≤ k ∧ (∃ f, pre ++ numF line (linesF f (tailB s fr)) = lines s ∧ (tailB s fr).size ≤ f) ∧ (k ≤ s.size → k - fr ≤ pieceN (tailB s fr)) ∧ (s.size < k → (tailB s fr).size = 0)
theorem seg_start (s : ByteArray) : SegI s [] 0 0 0 := by
  have e : tailB s 0 = s := ByteArray.extract_zero_size
  refine ⟨Nat.le_refl _, Nat.le_refl _, ⟨s.size, by rw [e]; rfl, by rw [e]; exact Nat.le_refl _⟩, fun _ => Nat.zero_le _, fun h => by omega⟩
theorem seg_byte {s : ByteArray} {pre : List (Nat × ByteArray)} {k line fr : Nat} (h : SegI s pre k line fr) (hk : k < s.size) (hc : s.data.toList[k]? ≠ some 10) : SegI s pre (k + 1) line fr := by
  obtain ⟨h1, h2, h3, h4, -⟩ := h
  refine ⟨by omega, by omega, h3, fun _ => ?_, fun h => by omega⟩
  have h5 := h4 (by omega)
  by_cases he : pieceN (tailB s fr) = k - fr
  · have hl : (tailB s fr).data.toList.length = s.size - fr := by rw [len_size, tail_size]
    have := upto_hit (l := (tailB s fr).data.toList) (c := 10) (by show pieceN (tailB s fr) < _; omega)
    rw [show upto (tailB s fr).data.toList 10 = k - fr from he, tail_list, List.getElem?_drop, show fr + (k - fr) = k by omega] at this
    exact absurd this hc
  · omega
theorem seg_skip {s : ByteArray} {pre : List (Nat × ByteArray)} {k line fr : Nat} (h : SegI s pre k line fr) (hk : k = s.size) (hf : fr = k) : SegI s pre (k + 1) line fr := by
  obtain ⟨h1, h2, h3, -, -⟩ := h
  refine ⟨by omega, by omega, h3, fun h => by omega, fun _ => ?_⟩
  rw [tail_size]
  omega
theorem seg_line {s : ByteArray} {pre : List (Nat × ByteArray)} {k line fr : Nat} (h : SegI s pre k line fr) (hk : k ≤ s.size) (hc : (k < s.size ∧ s.data.toList[k]? = some 10) ∨ (k = s.size ∧ fr ≠ k)) :
    SegI s (pre ++ [(line, s.extract fr k)]) (k + 1) (line + 1) (k + 1) := by
  obtain ⟨h1, h2, ⟨f, h3, h3'⟩, h4, -⟩ := h
  have h5 := h4 hk
  have hsz := tail_size s fr
  have hl : (tailB s fr).data.toList.length = s.size - fr := by rw [len_size, tail_size]
  have hp : pieceN (tailB s fr) = k - fr := by
    rcases hc with ⟨hc1, hc2⟩ | ⟨hc1, hc2⟩
    · by_cases hlt : k - fr < pieceN (tailB s fr)
      · exfalso
        have hb : ∀ {l : List UInt8} {c : UInt8} {j : Nat}, j < upto l c → l[j]? ≠ some c := by
          intro l
          induction l with
          | nil => intro c j hj; unfold upto at hj; simp at hj
          | cons x xs ih =>
            intro c j hj
            rw [upto_cons] at hj
            by_cases e : x = c
            · rw [if_pos e] at hj; omega
            · rw [if_neg e] at hj
              cases j with
              | zero => simpa using e
              | succ j => rw [List.getElem?_cons_succ]; exact ih (by omega)
        have := hb hlt
        rw [tail_list, List.getElem?_drop, show fr + (k - fr) = k by omega] at this
        exact this hc2
      · omega
    · have := upto_le (tailB s fr).data.toList 10
      unfold pieceN at h5 ⊢
      omega
  have hne : (tailB s fr).size ≠ 0 := by omega
  obtain ⟨f', rfl⟩ : ∃ f', f = f' + 1 := ⟨f - 1, by omega⟩
  rw [linesF_step hne, hp] at h3
  have e1 : (tailB s fr).extract 0 (k - fr) = s.extract fr k := by
    unfold tailB
    rw [ByteArray.extract_extract]
    congr 1 <;> omega
  have e2 : restB (tailB s fr) (k - fr) = tailB s (k + 1) := by
    unfold restB
    by_cases hlt : k - fr < (tailB s fr).size
    · rw [if_pos hlt, hsz]
      unfold tailB
      rw [ByteArray.extract_extract]
      congr 1 <;> omega
    · rw [if_neg hlt]
      refine (bytes_eq0 ?_).symm
      rw [tail_size]
      omega
  rw [e1, e2] at h3
  have hs2 := tail_size s (k + 1)
  refine ⟨by omega, by omega, ⟨f', by rw [List.append_assoc]; exact h3, by omega⟩, fun _ => by omega, fun h => by omega⟩
theorem seg_done {s : ByteArray} {pre : List (Nat × ByteArray)} {k line fr : Nat} (h : SegI s pre k line fr) (hk : s.size < k) : pre = lines s := by
  obtain ⟨-, -, ⟨f, h3, -⟩, -, h5⟩ := h
  rw [linesF_none (h5 hk)] at h3
  simpa [numF] using h3
end Go.Proofs.YteeekdffbcbamaaGreatDoor.Plain
/-
  A RANGE OVER A FUNCTION whose iterator keeps its own place in a box (one block that it writes between two rounds): a law for a body that never leaves the loop. Condition: the iterator hands over a list that is known beforehand.
-/
namespace Go.Proofs.YteeekdffbcbamaaGreatDoor
open Go.RowKit

section
variable {α : Type} {P : Program}
/-- What the iterator's steps leave be: a turn of its box alone, and new blocks. -/
def BoxAbides (bx : Nat) (J : List α → World → Prop) : Prop :=
  ∀ pre A B row, J pre A → A.grownBy B row → (∀ r, row = some r → r = bx) → J pre B
/-- The iterator's word: the elements of xs come, one by one. -/
def IterBox (P : Program) (gf : Nat) (lb : Array Value) (encs : α → Array Value) (bx : Nat) (xs : List α) (w : World) : Prop :=
  ∀ (l : Nat) (J : List α → World → Prop) (W : World), Below w.heap.size w W → BoxAbides bx J →
    (∀ pre x W1, J pre W1 → pre ++ [x] <+: xs → YieldAt Fence.wide 1 P l (encs x) W1 fun e W' => e = .returned (.bool true) ∧ J (pre ++ [x]) W' ∧ W1.heap.size ≤ W'.heap.size ∧ W'.heap[bx]? = W1.heap[bx]?) →
    J [] W → CallsIn Fence.wide 2 P gf (#[.func (.yield l) #[] #[]] ++ lb) W fun e W' => (∃ v, e = .returned v) ∧ J xs W'
/-- How the body of a round is left. -/
def boxPost (B bx : Nat) (I : List α → World → Prop) (xs : List α) (W : World) : Exit → Act → World → Prop
  | .normal, _, W' => KeepsFrom B W W' ∧ W'.heap[bx]? = W.heap[bx]? ∧ I xs W'
  | _, _, _ => False
/-- The caller's invariant: a turn of the iterator's box, or of a block from B on that is no cells, leaves it be. -/
def BoxOwn (B bx : Nat) (I : List α → World → Prop) : Prop :=
  ∀ pre W W' row, I pre W → W.grownBy W' row → (∀ r, row = some r → r = bx ∨ (B ≤ r ∧ ∃ o : Obj, W.heap[r]? = some o ∧ o.isCells = false)) → I pre W'
theorem BoxOwn.alloc {B bx : Nat} {I : List α → World → Prop} (h : BoxOwn B bx I) {pre : List α} {W : World} (o : Obj) (hs : I pre W) : I pre (W.alloc o) :=
  h pre W _ none hs (World.grownBy_alloc W o none) (fun r e => by cases e)
theorem BoxOwn.turn {B bx : Nat} {I : List α → World → Prop} (h : BoxOwn B bx I) {pre : List α} {W : World} {l : Nat} {o : Obj} (o' : Obj) (hs : I pre W) (hB : B ≤ l) (hl : W.heap[l]? = some o) (ho : o.isCells = false) : I pre (W.putObj l o') :=
  h pre W _ (some l) hs (grownBy_putObj' W l o') (fun r e => by cases e; exact Or.inr ⟨hB, o, hl, ho⟩)
theorem box_stays {A B : World} {row : Option Nat} {bx k : Nat} {o : Obj} (hg : A.grownBy B row) (hr : ∀ r, row = some r → r = bx) (hk : A.heap[k]? = some o) (hne : k ≠ bx) : B.heap[k]? = some o :=
  (hg.block k (Array.getElem?_eq_some_iff.1 hk).1 (fun e => hne (hr k e.symm))).trans hk

theorem wpIn_rangeBox {g : Operand} {ps : Array Tmp} {assign body : Code} {Q : Exit → Act → World → Prop} {a : Act} {w : World}
    {gf : Nat} {lb : Array Value} (hg : a.eval g = .func (.func gf) #[] lb) (eg : ∀ args w, (callFunc gf args).run P w = .ok (.enter gf args) w)
    {encs : α → Array Value} (hps : ∀ x, (encs x).size = ps.size) (bx : Nat) (hbx : bx < w.heap.size) (xs : List α) (hseq : IterBox P gf lb encs bx xs w)
    (I : List α → World → Prop) (hI : BoxOwn w.heap.size bx I) (h0 : I [] w) (a₁ : α → Act)
    (hassign : ∀ (l : Nat) (x : α) (W : World) (K : Act → World → Prop), K (a₁ x) W →
      assign.wpIn (Fence.wide.inRound l) 1 P (Exit.then K (fun _ _ _ => False)) { tmps := (ps.zip (encs x)).foldl (fun t (p, v) => t.setIfInBounds p v) a.tmps, defers := [] } W)
    (hbody : ∀ (l : Nat) (pre : List α) (x : α) (W : World), I pre W → pre ++ [x] <+: xs → body.wpIn (Fence.wide.inRound l) 1 P (boxPost w.heap.size bx I (pre ++ [x]) W) (a₁ x) W)
    (hdone : ∀ (D : Nat) (W : World), w.heap.size ≤ D → I xs W → W.heap[D]? = some (.deferred (some [])) → Q .normal { a with defers := { target := .collected D, args := #[] } :: a.defers } W) :
    (Code.rangeFunc g ps assign body).wpIn Fence.wide 3 P Q a w := by
  refine wpIn_rangeFunc ?_
  intro fn hfn
  obtain ⟨rec, hrec⟩ : ∃ rec : LoopState → Loop, rec = fun st => { state := st, pending := none, fn, tmps := a.tmps, params := ps, assign, body, defers := w.heap.size } := ⟨_, rfl⟩
  obtain ⟨W1, hW1⟩ : ∃ W1, (w.alloc (.deferred (some []))).alloc (.loop (rec .ready)) = W1 := ⟨_, rfl⟩
  have hL1 : W1.heap[w.heap.size + 1]? = some (.loop (rec .ready)) := by
    rw [← hW1]; have := World.alloc_heap_new (w.alloc (.deferred (some []))) (.loop (rec .ready)); rwa [World.size_alloc] at this
  have hK1 : W1.heap[w.heap.size]? = some (.deferred (some [])) := by
    rw [← hW1]; exact (Below.heap_alloc _ _ _ (by simp)).trans (World.alloc_heap_new w _)
  have hI1 : I [] W1 := by rw [← hW1]; exact hI.alloc _ (hI.alloc _ h0)
  have hb1 : Below w.heap.size w W1 := by
    rw [← hW1]; exact ((Below.refl _ w).alloc (Nat.le_refl _) _).alloc (by simp) _
  refine ⟨w.heap.size + 1, [{ target := .collected w.heap.size, args := #[] }], W1, { target := .fn (.func gf) lb, args := #[.func (.yield (w.heap.size + 1)) #[] #[]] }, W1, gf,
    #[.func (.yield (w.heap.size + 1)) #[] #[]] ++ lb, W1, ?_, ?_, fun _ _ => trivial, ?_, fun _ => by omega, ?_⟩
  · rw [← hW1, hrec]; exact run_enterLoop_outer _ _ _ _ _
  · simp only [resolve, hg]
    simp [go_sem]
  · simp [invoke, go_sem, eg]
  · refine (hseq (w.heap.size + 1) (fun pre W => I pre W ∧ W.heap[w.heap.size + 1]? = some (.loop (rec .ready)) ∧ W.heap[w.heap.size]? = some (.deferred (some []))) W1 hb1
      (fun pre A B row hs hg' hr => ⟨hI pre A B row hs.1 hg' (fun r e => Or.inl (hr r e)), box_stays hg' hr hs.2.1 (by omega), box_stays hg' hr hs.2.2 (by omega)⟩) ?_ ⟨hI1, hL1, hK1⟩).mono ?_
    · rintro pre x W ⟨hi, hl, hk⟩ hpre
      have hlt : w.heap.size + 1 < W.heap.size := (Array.getElem?_eq_some_iff.1 hl).1
      have hy := run_yield (P := P) (args := encs x) hl (by rw [hrec]; exact hps x)
      rw [hrec] at hy
      refine ⟨fn, _, assign, body, hy, roundIn_of_wpIn hfn (hassign _ x W _ ⟨_, run_beginRound hl (by rw [hrec]), ?_⟩)⟩
      obtain ⟨W2, hW2⟩ : ∃ W2, W.putObj (w.heap.size + 1) (.loop { rec .ready with state := .busy }) = W2 := ⟨_, rfl⟩
      have hl2 : W2.heap[w.heap.size + 1]? = some (.loop { rec .ready with state := .busy }) := by rw [← hW2]; exact World.putObj_heap_same hlt
      have hk2 : W2.heap[w.heap.size]? = some (.deferred (some [])) := by rw [← hW2]; exact (World.putObj_heap_other (by omega)).trans hk
      have hx2 : W2.heap[bx]? = W.heap[bx]? := by rw [← hW2]; exact World.putObj_heap_other (by omega)
      have hs2 : W2.heap.size = W.heap.size := by rw [← hW2]; exact World.putObj_size
      have hi2 : I pre W2 := by rw [← hW2]; exact hI.turn _ hi (by omega) hl rfl
      rw [hW2]
      refine wpIn_mono (hbody _ pre x W2 hi2 hpre) ?_
      rintro e a3 W3 hp
      cases e with
      | normal =>
        obtain ⟨hk3, hx3, hi3⟩ := hp
        have hl3 := hk3.same _ _ (by omega) hl2 rfl
        have hd3 := hk3.same _ _ (Nat.le_refl _) hk2 rfl
        have hr := run_endRound (P := P) none hl3
        rw [hrec] at hr hl3
        refine ⟨_, _, hr, rfl, ⟨hI.turn _ hi3 (by omega) hl3 rfl, ?_, (World.putObj_heap_other (by omega)).trans hd3⟩, ?_, ?_⟩
        · rw [hrec]; exact World.putObj_heap_same (Array.getElem?_eq_some_iff.1 hl3).1
        · rw [World.putObj_size]; exact Nat.le_trans (Nat.le_of_eq hs2.symm) hk3.size
        · exact (World.putObj_heap_other (by omega)).trans (hx3.trans hx2)
      | ret => exact hp.elim
      | exit id => exact hp.elim
      | goto t => exact hp.elim
      | panic ch => exact hp.elim
      | outgrown => exact hp.elim
    · rintro e W2 ⟨⟨v, rfl⟩, hi, hl, hk⟩
      exact ⟨none, _, by have := run_endLoop (P := P) hl (by rw [hrec]; simp); rw [hrec] at this; exact this, hdone _ _ (Nat.le_refl _) (hI.turn _ hi (by omega) hl rfl) ((World.putObj_heap_other (by omega)).trans hk)⟩
end
end Go.Proofs.YteeekdffbcbamaaGreatDoor
/-
  WALKS: the lines of a text, one by one (package report: pieces): the iterator keeps the rest of the text in its box.
-/
namespace Go.Proofs.YteeekdffbcbamaaGreatDoor
open Go.RowKit Go.Shelf
attribute [local go_sem] Oper.semAt_some

/-- A number and a line, as they are handed to the loop. -/
def lineEnc (x : Nat × ByteArray) : Array Value := #[.int .i64 (x.1 : Int), .string x.2]
/-- How much of the text is left in the box. -/
def boxLeft (bx : Nat) (W : World) : Nat := match W.cell? ⟨bx, 0, none⟩ with
  | some (.string g) => g.size
  | _ => 0
theorem boxLeft_eq {bx : Nat} {W : World} {g : ByteArray} (h : W.cell? ⟨bx, 0, none⟩ = some (.string g)) : boxLeft bx W = g.size := by
  unfold boxLeft
  rw [h]
set_option maxRecDepth 100000 in
set_option maxHeartbeats 2000000 in
theorem pieces_iter (bx : Nat) (s : ByteArray) (w : World) (hs : s.size ≤ 1000000) (hbx : w.heap[bx]? = some (.cells #[.string s] 9 (0, 0))) :
    IterBox Tryz.prog 49 #[.pointer (some ⟨bx, 0, none⟩)] lineEnc bx (Plain.lines s) w := by
  intro l J W hW hJ hY h0
  have hbl : bx < w.heap.size := (Array.getElem?_eq_some_iff.1 hbx).1
  have hX : Boxed W bx 9 (.string s) := (hW.block bx hbl).trans hbx
  clear hbx hW
  refine callsIn_of_wp Tryz.func49 rfl trivial ?_ rfl
  simp only [Tryz.ntmps49, List.size_toArray, List.length_cons, List.length_nil, Nat.reduceAdd, Nat.reduceSub, Array.replicate_succ, Array.replicate_zero, List.push_toArray, List.append_toArray, List.nil_append, List.cons_append]
  gi_wp2
  gi_loopw [3] (fun i wr => ∃ (pre : List (Nat × ByteArray)) (g : ByteArray) (k f : Nat), i = .int .i64 k ∧ pre ++ Plain.numF k (Plain.linesF f g) = Plain.lines s ∧ g.size ≤ f ∧ k + g.size ≤ s.size ∧ Boxed wr bx 9 (.string g) ∧ J pre wr) (fun _ wr => boxLeft bx wr)
  case atStart => exact ⟨[], s, 0, s.size, rfl, rfl, Nat.le_refl _, by omega, hX, h0⟩
  case round =>
    obtain ⟨pre, g, k, f, rfl, hE, hf, hk, hx, hj⟩ := hrel
    have hg1 : g.size ≤ 1000000 := by omega
    by_cases hg0 : g.size = 0
    · obtain rfl : g = ⟨#[]⟩ := Plain.bytes_eq0 hg0
      rw [Plain.linesF_none hg0] at hE
      have hE' : pre = Plain.lines s := by simpa [Plain.numF] using hE
      have hc := hx.cell
      gi_wp2
      go_end0
      exact ⟨⟨_, rfl⟩, hE' ▸ hj⟩
    · obtain ⟨f, rfl⟩ : ∃ f', f = f' + 1 := ⟨f - 1, by omega⟩
      rw [Plain.linesF_step hg0] at hE
      have hlt := Plain.rest_lt hg0
      have hCut := cut_any g 10 wr hg1 (Plain.pieceN g) rfl _ rfl _ rfl
      obtain ⟨n, hn⟩ : ∃ n, Plain.pieceN g = n := ⟨_, rfl⟩
      rw [hn] at hE hlt hCut
      obtain ⟨R, hR⟩ : ∃ R, Plain.restB g n = R := ⟨_, rfl⟩
      obtain ⟨pc, hpc⟩ : ∃ pc, g.extract 0 n = pc := ⟨_, rfl⟩
      obtain ⟨fd, hfd⟩ : ∃ fd, decide (n < g.size) = fd := ⟨_, rfl⟩
      rw [hR] at hE hlt hCut
      rw [hpc] at hE hCut
      rw [hfd] at hCut
      clear hn hR hpc hfd
      have hE2 : (pre ++ [(k, pc)]) ++ Plain.numF (k + 1) (Plain.linesF f R) = Plain.lines s := by rw [List.append_assoc]; exact hE
      have hc := hx.cell
      have q1 : ¬ g.toList = [] := by rw [ByteArray.toList_eq]; exact Plain.bytes_ne2 hg0
      have q2 : (!g.toList.isEmpty) = true := by simpa using q1
      gi_wp2_with ((refine ⟨trivial, ?_⟩; gi_at_call 50; refine (callsIn_wide.2 hCut).mono ?_; rintro e w1 ⟨rfl, m, rfl⟩; obtain ⟨fn, tmps, assign, body, hy0, hRd⟩ := hY pre (k, pc) (wr.drewN m) (hJ pre wr _ none hj (grown_drewN _ _ _) (fun r e => by cases e)) ⟨_, hE2⟩; have hy : (Instr.yield l #[.int .i64 (k : Int), .string pc]).run Tryz.prog (wr.drewN m) = .ok (.round l fn tmps assign body) (wr.drewN m) := hy0; clear hy0))
      refine hRd.mono ?_
      rintro e W3 ⟨rfl, hJ3, hsz3, hbx3⟩
      have hx3 : Boxed W3 bx 9 (.string g) := hbx3.trans hx
      have hc3 := hx3.cell
      have hf3 := hx3.frozen
      have hx4 := hx3.set (.string R)
      have hJ4 := hJ _ _ _ (some bx) hJ3 (grownBy_setCell' W3 bx (.string R)) (fun r e => by cases e; rfl)
      have hm1 := boxLeft_eq hx.cell
      have hm2 := boxLeft_eq hx4.cell
      have hk1 : (k : Int) + 1 ≤ 9223372036854775807 := by omega
      gi_wp2
      go_roundw
      case rel => exact ⟨pre ++ [(k, pc)], R, k + 1, f, by go_num, hE2, by omega, by omega, hx4, hJ4⟩
      case measure => rw [hm1, hm2]; exact hlt
/-- The iterator's value. -/
theorem pieces_any (s : ByteArray) (w : World) : Calls Tryz.prog 28 #[.string s] w fun e w' => e = .returned (.func (.func 49) #[] #[.pointer (some ⟨w.heap.size, 0, none⟩)]) ∧ w' = w.alloc (.cells #[.string s] 9) := by
  go_enter Tryz.func28, Tryz.ntmps28
  go_wp2_with fail
  go_ret
  exact ⟨rfl, rfl⟩
end Go.Proofs.YteeekdffbcbamaaGreatDoor
/-
  WALKS: the body of Split's loop (package report): what has come so far lies in two boxes.
-/
namespace Go.Proofs.YteeekdffbcbamaaGreatDoor
open Go.RowKit Go.Shelf
attribute [local go_sem] Oper.semAt_some

theorem infoSn : (Tryz.prog.info? 28).map (fun i => (i.zero, i.size, i.bytes)) = some (some (.agg #[.int .i64 0, .int .i64 0, .bool false, .int .i64 0, .int .i64 0, .int .i64 0, .int .i64 0, .int .i64 0, .int .i64 0, .slice none 0 0, .int .i64 0, .int .i64 0, .int .i64 0, .string ⟨#[]⟩]), 14, 136) := by kernel_rfl
/-- The cells of sentences, one behind the other. -/
def rowCells (es : List (Plain.Sn × Value)) : List Value := es.flatMap fun e => (snCells e.1 e.2).toList
/-- Sentences that lie in a slice v2, the numbers bad in a slice v3, all in blocks from B on. -/
def SnR (B : Nat) (W : World) (v2 v3 : Value) (es : List (Plain.Sn × Value)) (bad : List Int) : Prop :=
  W.ownsRow B 28 14 v2 es.length (rowCells es) ∧ W.ownsRow B 3 1 v3 bad.length (bad.map (Value.int .i64)) ∧
    ∀ e ∈ es, W.ownsRow B 3 1 e.2 e.1.prns.length (e.1.prns.map (Value.int .i64)) ∧ (e.2.ownBlock = none ∨ e.2.ownBlock ≠ v3.ownBlock)
theorem own_keeps {W W' : World} {base : Nat} {e : TypeId} {size n : Nat} {v : Value} {xs : List Value} (h : W.ownsRow base e size v n xs) {row : Option Nat} (hg : W.grownBy W' row) (hr : ∀ r, row = some r → v.ownBlock ≠ some r) : W'.ownsRow base e size v n xs := by
  refine h.kept hg ?_
  rcases h.2 with ⟨rfl, _⟩ | ⟨g, cap, cur, rfl, _⟩
  · exact Or.inl rfl
  · exact Or.inr (fun e => hr g e.symm rfl)
theorem own_type' {W : World} {base : Nat} {e : TypeId} {size n : Nat} {v : Value} {xs : List Value} (h : W.ownsRow base e size v n xs) {g : Nat} (hg : v.ownBlock = some g) : ∃ cs, W.heap[g]? = some (.cells cs e (0, 0)) := by
  rcases h.2 with ⟨rfl, _⟩ | ⟨g', cap, cur, rfl, _, hb, _⟩
  · exact absurd hg (by simp [Value.ownBlock])
  · obtain rfl : g' = g := by simpa [Value.ownBlock] using hg
    exact ⟨cur, hb⟩
theorem own_types {W : World} {b1 b2 : Nat} {e1 e2 : TypeId} (hne : e1 ≠ e2) {s1 s2 n1 n2 : Nat} {v1 v2 : Value} {x1 x2 : List Value} (h1 : W.ownsRow b1 e1 s1 v1 n1 x1) (h2 : W.ownsRow b2 e2 s2 v2 n2 x2) {g : Nat} (hg : v1.ownBlock = some g) : v2.ownBlock ≠ some g := by
  intro h
  obtain ⟨c1, k1⟩ := own_type' h1 hg
  obtain ⟨c2, k2⟩ := own_type' h2 h
  rw [k1] at k2
  injection k2 with k2
  injection k2 with _ k3 _
  exact hne k3
/-- A turn of a block that none of them owns. -/
theorem SnR.keeps {B : Nat} {W W' : World} {v2 v3 : Value} {es : List (Plain.Sn × Value)} {bad : List Int} (h : SnR B W v2 v3 es bad) {row : Option Nat} (hg : W.grownBy W' row) (h2 : ∀ r, row = some r → v2.ownBlock ≠ some r) (h3 : ∀ r, row = some r → v3.ownBlock ≠ some r)
    (he : ∀ e ∈ es, ∀ r, row = some r → e.2.ownBlock ≠ some r) : SnR B W' v2 v3 es bad :=
  ⟨own_keeps h.1 hg h2, own_keeps h.2.1 hg h3, fun e hm => ⟨own_keeps (h.2.2 e hm).1 hg (he e hm), (h.2.2 e hm).2⟩⟩
theorem SnR.low {B : Nat} {W W' : World} {v2 v3 : Value} {es : List (Plain.Sn × Value)} {bad : List Int} (h : SnR B W v2 v3 es bad) {row : Option Nat} (hg : W.grownBy W' row) (hr : ∀ r, row = some r → r < B) : SnR B W' v2 v3 es bad :=
  h.keeps hg (fun r e => own_ne h.1 (hr r e)) (fun r e => own_ne h.2.1 (hr r e)) (fun e hm r hr' => own_ne (h.2.2 e hm).1 (hr r hr'))
theorem SnR.noncells {B : Nat} {W W' : World} {v2 v3 : Value} {es : List (Plain.Sn × Value)} {bad : List Int} (h : SnR B W v2 v3 es bad) {row : Option Nat} (hg : W.grownBy W' row) (hr : ∀ r, row = some r → ∃ o : Obj, W.heap[r]? = some o ∧ o.isCells = false) : SnR B W' v2 v3 es bad := by
  have aux : ∀ {e : TypeId} {s n : Nat} {v : Value} {xs : List Value}, W.ownsRow B e s v n xs → ∀ r, row = some r → v.ownBlock ≠ some r := by
    intro e s n v xs ho r hr' hv
    obtain ⟨o, k1, k2⟩ := hr r hr'
    obtain ⟨cs, k3⟩ := own_type' ho hv
    rw [k1] at k3
    injection k3 with k3
    subst k3
    cases k2
  exact h.keeps hg (aux h.1) (aux h.2.1) (fun e hm => aux (h.2.2 e hm).1)
/-- What has come so far. -/
def SplI (w : World) (pre : List (Nat × ByteArray)) (W : World) : Prop :=
  ∃ v2 v3 es, Boxed W w.heap.size 23 v2 ∧ Boxed W (w.heap.size + 1) 22 v3 ∧ SnR (w.heap.size + 3) W v2 v3 es (Plain.badL pre) ∧ es.map (·.1) = Plain.goodL pre ∧ Below w.heap.size w W ∧ w.heap.size + 3 ≤ W.heap.size
theorem splI_own (w : World) (B : Nat) (hB : w.heap.size + 3 ≤ B) : BoxOwn B (w.heap.size + 2) (SplI w) := by
  rintro pre W W' row ⟨v2, v3, es, h2, h3, hS, hE, hb, hsz⟩ hg hr
  have hlow : ∀ r, row = some r → r ≠ w.heap.size ∧ r ≠ w.heap.size + 1 := by
    intro r e
    rcases hr r e with rfl | ⟨k, _⟩ <;> omega
  refine ⟨v2, v3, es, h2.kept hg (fun e => (hlow _ e.symm).1 rfl), h3.kept hg (fun e => (hlow _ e.symm).2 rfl), ?_, hE, hb.grown hg hb.size (fun r e => by rcases hr r e with rfl | ⟨k, _⟩ <;> omega), Nat.le_trans hsz hg.size⟩
  by_cases hrow : ∃ r, row = some r ∧ r = w.heap.size + 2
  · obtain ⟨r, e, rfl⟩ := hrow
    exact hS.low hg (fun r' e' => by rw [e] at e'; injection e' with e'; omega)
  · refine hS.noncells hg (fun r e => ?_)
    rcases hr r e with h | ⟨_, o, h⟩
    · exact absurd ⟨r, e, h⟩ hrow
    · exact ⟨o, h⟩
theorem cells_new_at (w : World) (C : Array Value) (t : TypeId) (g : Nat) (hg : g = w.heap.size) : ∀ (j : Nat) (u : Value), C.toList[j]? = some u → (w.alloc (.cells C t)).cell? ((⟨g, 0, none⟩ : Addr).add j) = some u := by
  subst hg
  intro j u hj
  have e : (⟨w.heap.size, 0, none⟩ : Addr).add j = ⟨w.heap.size, j, none⟩ := by simp [Addr.add]; exact Eq.symm
  rw [e]
  have := (Blk.new_at (w := w) (t := t) (cs := C) rfl).cell j
  rw [this]
  simpa using hj
theorem SnR.below {B : Nat} {W W' : World} {v2 v3 : Value} {es : List (Plain.Sn × Value)} {bad : List Int} (h : SnR B W v2 v3 es bad) (hb : Below W.heap.size W W') : SnR B W' v2 v3 es bad :=
  h.low (grown_below hb) (fun r e => by cases e)
theorem keepsFrom_below {B : Nat} {W W' : World} (hb : Below W.heap.size W W') : KeepsFrom B W W' :=
  ⟨hb.size, fun k _ _ hk _ => (hb.block k (Array.getElem?_eq_some_iff.1 hk).1).trans hk⟩
theorem keepsFrom_own {B : Nat} {W W' : World} {base : Nat} {e : TypeId} {s n : Nat} {v : Value} {xs : List Value} (ho : W.ownsRow base e s v n xs) (hg : W.grownBy W' v.ownBlock) : KeepsFrom B W W' :=
  (KeepsOthers.of_grownBy hg (fun j _ hj hk => by
    obtain ⟨cs, k⟩ := own_type' ho hj
    rw [k] at hk
    injection hk with hk
    subst hk
    rfl)).from B
theorem own_block_lt {W : World} {base : Nat} {e : TypeId} {s n : Nat} {v : Value} {xs : List Value} (ho : W.ownsRow base e s v n xs) {g : Nat} (hg : v.ownBlock = some g) : g < W.heap.size := by
  obtain ⟨cs, k⟩ := own_type' ho hg
  exact (Array.getElem?_eq_some_iff.1 k).1
theorem rowCells_snoc (es : List (Plain.Sn × Value)) (x : Plain.Sn) (v : Value) : rowCells (es ++ [(x, v)]) = rowCells es ++ (snCells x v).toList := by simp [rowCells]
section
variable {w W w5 w8 w9 : World} {pre : List (Nat × ByteArray)} {i : Nat} {p : ByteArray} {v2 v3 v5 v' : Value} {es : List (Plain.Sn × Value)} {sn : Plain.Sn}
theorem splI_good (h2 : Boxed W w.heap.size 23 v2) (h3 : Boxed W (w.heap.size + 1) 22 v3) (hS : SnR (w.heap.size + 3) W v2 v3 es (Plain.badL pre)) (hE : es.map (·.1) = Plain.goodL pre) (hb : Below w.heap.size w W) (hsz : w.heap.size + 3 ≤ W.heap.size)
    (hb5 : Below W.heap.size W w5) (ho5 : w5.ownsRow W.heap.size 3 1 v5 sn.prns.length (sn.prns.map (Value.int .i64))) (hb8 : Below w5.heap.size w5 w8) (hg : w8.grownBy w9 v2.ownBlock)
    (hown : w9.ownsRow (w.heap.size + 3) 28 14 v' (es.length + 1) (rowCells es ++ (snCells sn v5).toList)) (hgood : Plain.goodL (pre ++ [(i, p)]) = Plain.goodL pre ++ [sn] ∧ Plain.badL (pre ++ [(i, p)]) = Plain.badL pre) :
    boxPost (w.heap.size + 3) (w.heap.size + 2) (SplI w) (pre ++ [(i, p)]) W .normal { tmps := #[], defers := [] } (w9.setCell ⟨w.heap.size, 0, none⟩ v') := by
  have hb8' : Below W.heap.size W w8 := hb5.trans (hb8.mono hb5.size)
  have hS8 : SnR (w.heap.size + 3) w8 v2 v3 es (Plain.badL pre) := hS.below hb8'
  have ho8 := own_less (base' := w.heap.size + 3) (own_below ho5 hb8) hsz
  have h28 : Boxed w8 w.heap.size 23 v2 := (hb8'.block _ h2.lt).trans h2
  have h38 : Boxed w8 (w.heap.size + 1) 22 v3 := (hb8'.block _ h3.lt).trans h3
  have hne : ∀ k, k < w.heap.size + 3 → some k ≠ v2.ownBlock := fun k hk => Ne.symm (own_ne hS8.1 hk)
  have h29 : Boxed w9 w.heap.size 23 v2 := h28.kept hg (hne _ (by omega))
  have h39 : Boxed w9 (w.heap.size + 1) 22 v3 := h38.kept hg (hne _ (by omega))
  have hx9 : w9.heap[w.heap.size + 2]? = W.heap[w.heap.size + 2]? := (hg.block _ (Nat.lt_of_lt_of_le (by omega) hb8'.size) (hne _ (by omega))).trans (hb8'.block _ (by omega))
  have hk8 : KeepsFrom (w.heap.size + 3) W w8 := keepsFrom_below hb8'
  have hk9 : KeepsFrom (w.heap.size + 3) w8 w9 := keepsFrom_own hS8.1 hg
  have hv3 : ∀ r, v2.ownBlock = some r → v3.ownBlock ≠ some r := fun r hr => own_types (by decide) hS8.1 hS8.2.1 hr
  have hv5 : ∀ r, v2.ownBlock = some r → v5.ownBlock ≠ some r := fun r hr => own_types (by decide) hS8.1 ho8 hr
  have hS9 : SnR (w.heap.size + 3) w9 v' v3 (es ++ [(sn, v5)]) (Plain.badL pre) := by
    refine ⟨?_, own_keeps hS8.2.1 hg hv3, ?_⟩
    · rw [rowCells_snoc, List.length_append]
      exact hown
    · intro e he
      rcases List.mem_append.1 he with he | he
      · exact ⟨own_keeps (hS8.2.2 e he).1 hg (fun r hr => own_types (by decide) hS8.1 (hS8.2.2 e he).1 hr), (hS8.2.2 e he).2⟩
      · obtain rfl : e = (sn, v5) := by simpa using he
        refine ⟨own_keeps ho8 hg hv5, ?_⟩
        by_cases hn : v5.ownBlock = none
        · exact Or.inl hn
        · obtain ⟨g5, hg5⟩ := Option.ne_none_iff_exists'.1 hn
          refine Or.inr (fun e => ?_)
          have h5 := own_ge ho5 hg5
          have h3' := own_block_lt hS.2.1 (e.symm.trans hg5)
          omega
  have hB9 : Below w.heap.size w w9 := (hb.trans (hb8'.mono hb.size)).grown hg (Nat.le_trans hb.size hb8'.size) (fun r e => by have := own_ge hS8.1 e; omega)
  refine ⟨(hk8.trans hk9).trans ((KeepsOthers.setCell _ _ _).from _), (Below.heap_setCell _ _ _ _ (by simp)).trans hx9, v', v3, es ++ [(sn, v5)], h29.set v', ?_, ?_, ?_, hB9.setCell (Nat.le_refl _) _, ?_⟩
  · exact h39.kept (grownBy_setCell' w9 w.heap.size v') (by simp)
  · rw [hgood.2]
    exact hS9.low (grownBy_setCell' w9 w.heap.size v') (fun r e => by cases e; omega)
  · rw [hgood.1, List.map_append, hE]; rfl
  · have := (grownBy_setCell' w9 w.heap.size v').size
    have := hg.size
    have := hb8'.size
    omega
theorem splI_bad (h2 : Boxed W w.heap.size 23 v2) (h3 : Boxed W (w.heap.size + 1) 22 v3) (hS : SnR (w.heap.size + 3) W v2 v3 es (Plain.badL pre)) (hE : es.map (·.1) = Plain.goodL pre) (hb : Below w.heap.size w W) (hsz : w.heap.size + 3 ≤ W.heap.size)
    (hb8' : Below W.heap.size W w8) (hg : w8.grownBy w9 v3.ownBlock)
    (hown : w9.ownsRow (w.heap.size + 3) 3 1 v' ((Plain.badL pre).length + 1) ((Plain.badL pre).map (Value.int .i64) ++ [.int .i64 (i : Int)])) (hat : v'.ownBlock = v3.ownBlock ∨ v'.ownBlock = some w8.heap.size)
    (hbad : Plain.goodL (pre ++ [(i, p)]) = Plain.goodL pre ∧ Plain.badL (pre ++ [(i, p)]) = Plain.badL pre ++ [(i : Int)]) :
    boxPost (w.heap.size + 3) (w.heap.size + 2) (SplI w) (pre ++ [(i, p)]) W .normal { tmps := #[], defers := [] } (w9.setCell ⟨w.heap.size + 1, 0, none⟩ v') := by
  have hS8 : SnR (w.heap.size + 3) w8 v2 v3 es (Plain.badL pre) := hS.below hb8'
  have h28 : Boxed w8 w.heap.size 23 v2 := (hb8'.block _ h2.lt).trans h2
  have h38 : Boxed w8 (w.heap.size + 1) 22 v3 := (hb8'.block _ h3.lt).trans h3
  have hne : ∀ k, k < w.heap.size + 3 → some k ≠ v3.ownBlock := fun k hk => Ne.symm (own_ne hS8.2.1 hk)
  have h29 : Boxed w9 w.heap.size 23 v2 := h28.kept hg (hne _ (by omega))
  have h39 : Boxed w9 (w.heap.size + 1) 22 v3 := h38.kept hg (hne _ (by omega))
  have hx9 : w9.heap[w.heap.size + 2]? = W.heap[w.heap.size + 2]? := (hg.block _ (Nat.lt_of_lt_of_le (by omega) hb8'.size) (hne _ (by omega))).trans (hb8'.block _ (by omega))
  have hk8 : KeepsFrom (w.heap.size + 3) W w8 := keepsFrom_below hb8'
  have hk9 : KeepsFrom (w.heap.size + 3) w8 w9 := keepsFrom_own hS8.2.1 hg
  have hS9 : SnR (w.heap.size + 3) w9 v2 v' es (Plain.badL pre ++ [(i : Int)]) := by
    refine ⟨own_keeps hS8.1 hg (fun r hr => own_types (by decide) hS8.2.1 hS8.1 hr), ?_, ?_⟩
    · rw [List.length_append, List.map_append]
      exact hown
    · intro e he
      have h8 := hS8.2.2 e he
      have hn : ∀ r, v3.ownBlock = some r → e.2.ownBlock ≠ some r := by
        intro r hr h
        rcases h8.2 with h' | h'
        · rw [h'] at h; cases h
        · exact h' (h.trans hr.symm)
      refine ⟨own_keeps h8.1 hg hn, ?_⟩
      by_cases hz : e.2.ownBlock = none
      · exact Or.inl hz
      · refine Or.inr (fun h => ?_)
        obtain ⟨ge, hge⟩ := Option.ne_none_iff_exists'.1 hz
        rcases hat with h' | h'
        · exact hn ge ((h'.symm.trans h.symm).trans hge) hge
        · have h4 := own_block_lt h8.1 hge
          have h5 : some ge = some w8.heap.size := hge.symm.trans (h.trans h')
          injection h5 with h5
          omega
  have hB9 : Below w.heap.size w w9 := (hb.trans (hb8'.mono hb.size)).grown hg (Nat.le_trans hb.size hb8'.size) (fun r e => by have := own_ge hS8.2.1 e; omega)
  refine ⟨(hk8.trans hk9).trans ((KeepsOthers.setCell _ _ _).from _), (Below.heap_setCell _ _ _ _ (by simp)).trans hx9, v2, v', es, ?_, h39.set v', ?_, ?_, hB9.setCell (by simp) _, ?_⟩
  · exact h29.kept (grownBy_setCell' w9 (w.heap.size + 1) v') (by simp)
  · rw [hbad.2]
    exact hS9.low (grownBy_setCell' w9 (w.heap.size + 1) v') (fun r e => by cases e; omega)
  · rw [hbad.1]; exact hE
  · have := (grownBy_setCell' w9 (w.heap.size + 1) v').size
    have := hg.size
    have := hb8'.size
    omega
end
end Go.Proofs.YteeekdffbcbamaaGreatDoor
