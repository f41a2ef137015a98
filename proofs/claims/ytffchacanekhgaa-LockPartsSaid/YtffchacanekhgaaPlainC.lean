/-
  PLAIN: runs of a detector.
-/
import Derived.Test.YtffchacanekhgaaPlainB
namespace Go.Proofs.Ytffchacanekhgaa.Plain

/-- up, down, locked -/
abbrev St := Int × Int × Bool
def stp (n m : Int) (s : St) (c : Bool) : St := (stU n s.1 c, stD m s.2.1 c, stB n m s.1 s.2.1 s.2.2 c)
def runS (n m : Int) (s : St) (cs : List Bool) : St := cs.foldl (stp n m) s
def runL (n m : Int) : St → List Bool → List Bool
  | _, [] => []
  | s, c :: cs => (stp n m s c).2.2 :: runL n m (stp n m s c) cs
theorem runS_append (n m : Int) (s : St) (xs ys : List Bool) : runS n m s (xs ++ ys) = runS n m (runS n m s xs) ys := List.foldl_append
theorem runL_append (n m : Int) (s : St) (xs ys : List Bool) : runL n m s (xs ++ ys) = runL n m s xs ++ runL n m (runS n m s xs) ys := by
  induction xs generalizing s with
  | nil => rfl
  | cons c xs ih => simp only [List.cons_append, runL, ih]; rfl
theorem runL_length (n m : Int) (s : St) (xs : List Bool) : (runL n m s xs).length = xs.length := by
  induction xs generalizing s with
  | nil => rfl
  | cons c xs ih => simp only [runL, List.length_cons, ih]
theorem runS_snoc (n m : Int) (s : St) (xs : List Bool) (c : Bool) : runS n m s (xs ++ [c]) = stp n m (runS n m s xs) c := by rw [runS_append]; rfl
theorem runL_snoc (n m : Int) (s : St) (xs : List Bool) (c : Bool) : runL n m s (xs ++ [c]) = runL n m s xs ++ [(stp n m (runS n m s xs) c).2.2] := by rw [runL_append]; rfl
theorem take_snoc (xs : List Bool) (k : Nat) (h : k < xs.length) : xs.take (k + 1) = xs.take k ++ [xs[k]] := by
  rw [List.take_succ_eq_append_getElem h]
theorem runS_take (n m : Int) (s : St) (xs : List Bool) (k : Nat) (h : k < xs.length) : runS n m s (xs.take (k + 1)) = stp n m (runS n m s (xs.take k)) xs[k] := by rw [take_snoc xs k h, runS_snoc]
theorem runL_take (n m : Int) (s : St) (xs : List Bool) (k : Nat) (h : k < xs.length) : runL n m s (xs.take (k + 1)) = runL n m s (xs.take k) ++ [(stp n m (runS n m s (xs.take k)) xs[k]).2.2] := by rw [take_snoc xs k h, runL_snoc]
theorem chk_run (n m : Int) (s : St) (xs : List Bool) (h : chk n m s.1 s.2.1 s.2.2 = 0) : chk n m (runS n m s xs).1 (runS n m s xs).2.1 (runS n m s xs).2.2 = 0 := by
  induction xs generalizing s with
  | nil => exact h
  | cons c xs ih => exact ih (stp n m s c) (chk_step n m s.1 s.2.1 s.2.2 c h)
end Go.Proofs.Ytffchacanekhgaa.Plain
