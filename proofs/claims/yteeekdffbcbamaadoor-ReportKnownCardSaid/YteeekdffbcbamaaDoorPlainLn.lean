/-
  PLAIN: the lines of a text, with their numbers.
-/
import Derived.Test.YteeekdffbcbamaaDoorG4
namespace Go.Proofs.YteeekdffbcbamaaDoor.Plain

/-- The first line of a text, and what stands behind its line feed. -/
def pieceN (g : ByteArray) : Nat := upto g.data.toList 10
def linesF : Nat → ByteArray → List ByteArray
  | 0, _ => []
  | f + 1, g => if g.size = 0 then [] else g.extract 0 (pieceN g) :: linesF f (restB g (pieceN g))
def numF : Nat → List ByteArray → List (Nat × ByteArray)
  | _, [] => []
  | i, p :: r => (i, p) :: numF (i + 1) r
def lines (s : ByteArray) : List (Nat × ByteArray) := numF 0 (linesF s.size s)
theorem rest_lt {g : ByteArray} (h : g.size ≠ 0) : (restB g (pieceN g)).size < g.size := by
  unfold restB
  split
  · rw [ByteArray.size_extract]; omega
  · show 0 < g.size; omega
theorem linesF_step {f : Nat} {g : ByteArray} (h : g.size ≠ 0) : linesF (f + 1) g = g.extract 0 (pieceN g) :: linesF f (restB g (pieceN g)) := by
  rw [linesF, if_neg h]
theorem linesF_none {f : Nat} {g : ByteArray} (h : g.size = 0) : linesF f g = [] := by
  cases f with
  | zero => rfl
  | succ f => rw [linesF, if_pos h]
theorem piece_size (g : ByteArray) : (g.extract 0 (pieceN g)).size ≤ g.size := by
  rw [ByteArray.size_extract]; omega
theorem bytes_eq0 {g : ByteArray} (h : g.size = 0) : g = ⟨#[]⟩ := by
  cases g with
  | mk d =>
    have : d = #[] := Array.eq_empty_of_size_eq_zero h
    rw [this]
theorem bytes_ne2 {g : ByteArray} (h : g.size ≠ 0) : ¬ g.data.toList = [] := by
  intro e
  apply h
  rw [← len_size, e]
  rfl
theorem bytes_ne1 {g : ByteArray} (h : g.size ≠ 0) : (g.data.toList == []) = false := by
  simpa using bytes_ne2 h
/-- The sentences of lines, and the numbers of the lines that are none. -/
def goodL (xs : List (Nat × ByteArray)) : List Sn := xs.filterMap fun x => if (parse x.2).2.1 = 0 then some (parse x.2).1 else none
def badL (xs : List (Nat × ByteArray)) : List Int := xs.filterMap fun x => if (parse x.2).2.1 = 0 then none else some (x.1 : Int)
theorem goodL_yes {pre : List (Nat × ByteArray)} {x : Nat × ByteArray} (h : (parse x.2).2.1 = 0) : goodL (pre ++ [x]) = goodL pre ++ [(parse x.2).1] ∧ badL (pre ++ [x]) = badL pre := by
  unfold goodL badL
  rw [List.filterMap_append, List.filterMap_append]
  simp [h]
theorem goodL_no {pre : List (Nat × ByteArray)} {x : Nat × ByteArray} (h : (parse x.2).2.1 ≠ 0) : goodL (pre ++ [x]) = goodL pre ∧ badL (pre ++ [x]) = badL pre ++ [(x.1 : Int)] := by
  unfold goodL badL
  rw [List.filterMap_append, List.filterMap_append]
  simp [h]
theorem good_len (pre : List (Nat × ByteArray)) : (goodL pre).length ≤ pre.length ∧ (badL pre).length ≤ pre.length := ⟨List.length_filterMap_le _ _, List.length_filterMap_le _ _⟩
theorem numF_len : ∀ (i : Nat) (l : List ByteArray), (numF i l).length = l.length
  | _, [] => rfl
  | i, p :: r => by
    show (numF (i + 1) r).length + 1 = r.length + 1
    rw [numF_len]
theorem linesF_len : ∀ (f : Nat) (g : ByteArray), (linesF f g).length ≤ f
  | 0, _ => Nat.le_refl _
  | f + 1, g => by
    unfold linesF
    split
    · exact Nat.zero_le _
    · rw [List.length_cons]
      have := linesF_len f (restB g (pieceN g))
      omega
theorem lines_len (s : ByteArray) : (lines s).length ≤ s.size := by
  unfold lines
  rw [numF_len]
  exact linesF_len _ _
theorem linesF_size : ∀ (f : Nat) (g : ByteArray), ∀ p ∈ linesF f g, p.size ≤ g.size
  | 0, _, p, h => by simp [linesF] at h
  | f + 1, g, p, h => by
    by_cases h0 : g.size = 0
    · rw [linesF_none h0] at h; simp at h
    · rw [linesF_step h0] at h
      rcases List.mem_cons.1 h with rfl | h
      · exact piece_size g
      · exact Nat.le_trans (linesF_size f _ p h) (Nat.le_of_lt (rest_lt h0))
theorem numF_mem : ∀ (i : Nat) (l : List ByteArray), ∀ x ∈ numF i l, x.2 ∈ l
  | _, [], x, h => by simp [numF] at h
  | i, p :: r, x, h => by
    rcases List.mem_cons.1 (show x ∈ (i, p) :: numF (i + 1) r from h) with rfl | h
    · exact List.mem_cons_self
    · exact List.mem_cons_of_mem _ (numF_mem (i + 1) r x h)
theorem lines_size (s : ByteArray) : ∀ x ∈ lines s, x.2.size ≤ s.size := fun x h => linesF_size _ _ _ (numF_mem _ _ x h)
end Go.Proofs.YteeekdffbcbamaaDoor.Plain
