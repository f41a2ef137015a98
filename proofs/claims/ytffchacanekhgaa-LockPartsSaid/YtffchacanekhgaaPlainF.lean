/-
  PLAIN: locked exactly if enough claims came in a row, and since then not enough windows without.
-/
import Derived.Test.YtffchacanekhgaaPlainC
namespace Go.Proofs.Ytffchacanekhgaa.Plain

/-- Claims in a row that end the first k; windows without in a row; the statement's own answer. -/
def upN (cs : List Bool) : Nat → Nat
  | 0 => 0
  | k + 1 => if cs[k]?.getD false then upN cs k + 1 else 0
def dnN (cs : List Bool) : Nat → Nat
  | 0 => 0
  | k + 1 => if cs[k]?.getD false then 0 else dnN cs k + 1
def wantN (n m : Int) (cs : List Bool) : Nat → Bool
  | 0 => false
  | k + 1 => if n ≤ (upN cs (k + 1) : Int) then true else if m ≤ (dnN cs (k + 1) : Int) then false else wantN n m cs k

theorem upN_le (cs : List Bool) (k : Nat) : upN cs k ≤ k := by
  induction k with
  | zero => exact Nat.le_refl 0
  | succ k ih => rw [upN]; split <;> omega
theorem dnN_le (cs : List Bool) (k : Nat) : dnN cs k ≤ k := by
  induction k with
  | zero => exact Nat.le_refl 0
  | succ k ih => rw [dnN]; split <;> omega
theorem up_at (cs : List Bool) (k t : Nat) (h : t ≤ upN cs k) (hk : t < k) : cs[k - 1 - t]?.getD false = decide (t < upN cs k) := by
  induction k generalizing t with
  | zero => omega
  | succ k ih =>
    rw [upN] at h ⊢
    by_cases hc : cs[k]?.getD false = true
    · rw [if_pos hc] at h ⊢
      cases t with
      | zero => simpa using hc
      | succ t =>
        have h1 := ih t (by omega) (by omega)
        rw [show k + 1 - 1 - (t + 1) = k - 1 - t by omega, h1]
        simp
    · rw [if_neg hc] at h ⊢
      obtain rfl : t = 0 := by omega
      simpa using hc
theorem dn_at (cs : List Bool) (k t : Nat) (h : t ≤ dnN cs k) (hk : t < k) : cs[k - 1 - t]?.getD false = !decide (t < dnN cs k) := by
  induction k generalizing t with
  | zero => omega
  | succ k ih =>
    rw [dnN] at h ⊢
    by_cases hc : cs[k]?.getD false = true
    · rw [if_pos hc] at h ⊢
      obtain rfl : t = 0 := by omega
      simpa using hc
    · rw [if_neg hc] at h ⊢
      cases t with
      | zero => simpa using hc
      | succ t =>
        have h1 := ih t (by omega) (by omega)
        rw [show k + 1 - 1 - (t + 1) = k - 1 - t by omega, h1]
        simp
/-- A locked one has had a claim in the last m windows. -/
theorem want_dn (n m : Int) (cs : List Bool) (hn : 1 ≤ n) (hm : 1 ≤ m) (k : Nat) (h : wantN n m cs k = true) : (dnN cs k : Int) < m ∧ dnN cs k < k := by
  induction k with
  | zero => cases h
  | succ k ih =>
    rw [wantN] at h
    by_cases h1 : n ≤ (upN cs (k + 1) : Int)
    · have hc : cs[k]?.getD false = true := by
        by_cases hc : cs[k]?.getD false = true
        · exact hc
        · rw [upN, if_neg hc] at h1
          omega
      rw [dnN, if_pos hc]
      omega
    · rw [if_neg h1] at h
      by_cases h2 : m ≤ (dnN cs (k + 1) : Int)
      · rw [if_pos h2] at h; cases h
      · rw [if_neg h2] at h
        have := ih h
        refine ⟨by omega, ?_⟩
        rw [dnN]
        split <;> omega
/-- A count that stops at n. -/
def cap (a n : Int) : Int := if a ≤ n then a else n
theorem cap_le {a n : Int} (h : a ≤ n) : cap a n = a := if_pos h
theorem cap_gt {a n : Int} (h : ¬ a ≤ n) : cap a n = n := if_neg h
theorem cap_succ (a n : Int) : (if cap a n + 1 ≤ n then cap a n + 1 else n) = cap (a + 1) n := by
  by_cases h : a ≤ n
  · rw [cap_le h]; rfl
  · rw [cap_gt h, if_neg (by omega), cap_gt (by omega)]
theorem cap_eq (a n : Int) : (cap a n == n) = decide (n ≤ a) := by
  by_cases h : n ≤ a
  · rw [decide_eq_true h]
    by_cases h2 : a ≤ n
    · rw [cap_le h2]; simp; omega
    · rw [cap_gt h2]; simp
  · rw [decide_eq_false h, cap_le (by omega)]; simp; omega
theorem cap_lt (a n : Int) : decide (cap a n < n) = !decide (n ≤ a) := by
  by_cases h : n ≤ a
  · rw [decide_eq_true h]
    by_cases h2 : a ≤ n
    · rw [cap_le h2, decide_eq_false (by omega)]; rfl
    · rw [cap_gt h2, decide_eq_false (by omega)]; rfl
  · rw [decide_eq_false h, cap_le (by omega), decide_eq_true (by omega)]; rfl
theorem stp_true (n m a b : Int) (q : Bool) (hm : 1 ≤ m) : stp n m (cap a n, cap b m, q) true = (cap (a + 1) n, cap 0 m, q || decide (n ≤ a + 1)) := by
  have e : stU n (cap a n) true = cap (a + 1) n := cap_succ a n
  have e3 : stB n m (cap a n) (cap b m) q true = (q || stU n (cap a n) true == n) := rfl
  have e2 : stD m (cap b m) true = cap 0 m := (cap_le (a := 0) (n := m) (by omega)).symm
  show (stU n (cap a n) true, stD m (cap b m) true, stB n m (cap a n) (cap b m) q true) = _
  rw [e3, e, e2, cap_eq]
theorem stp_false (n m a b : Int) (q : Bool) (hn : 1 ≤ n) : stp n m (cap a n, cap b m, q) false = (cap 0 n, cap (b + 1) m, q && !decide (m ≤ b + 1)) := by
  have e : stD m (cap b m) false = cap (b + 1) m := cap_succ b m
  have e3 : stB n m (cap a n) (cap b m) q false = (q && decide (stD m (cap b m) false < m)) := rfl
  have e2 : stU n (cap a n) false = cap 0 n := (cap_le (a := 0) (n := n) (by omega)).symm
  show (stU n (cap a n) false, stD m (cap b m) false, stB n m (cap a n) (cap b m) q false) = _
  rw [e3, e, e2, cap_lt]
/-- The state after the first k claims. -/
theorem run_want (n m : Int) (cs : List Bool) (hn : 1 ≤ n) (hm : 1 ≤ m) (k : Nat) (hk : k ≤ cs.length) :
    runS n m (0, 0, false) (cs.take k) = (cap (upN cs k : Int) n, cap (dnN cs k : Int) m, wantN n m cs k) := by
  induction k with
  | zero =>
    show ((0 : Int), (0 : Int), false) = (cap 0 n, cap 0 m, false)
    rw [cap_le (by omega), cap_le (by omega)]
  | succ k ih =>
    have hk' : k < cs.length := by omega
    rw [runS_take n m _ cs k hk', ih (by omega)]
    have hg : cs[k]?.getD false = cs[k] := by rw [List.getElem?_eq_getElem hk']; rfl
    have hup : upN cs (k + 1) = if cs[k] = true then upN cs k + 1 else 0 := by rw [upN, hg]
    have hdn : dnN cs (k + 1) = if cs[k] = true then 0 else dnN cs k + 1 := by rw [dnN, hg]
    rw [wantN, hup, hdn]
    generalize cs[k] = c
    generalize upN cs k = a
    generalize dnN cs k = b
    generalize wantN n m cs k = q
    cases c
    · rw [stp_false n m _ _ q hn, if_neg (by decide), if_neg (by decide)]
      have e : (if n ≤ ((0 : Nat) : Int) then true else if m ≤ ((b + 1 : Nat) : Int) then false else q) = (q && !decide (m ≤ (b : Int) + 1)) := by
        rw [if_neg (by omega)]
        by_cases h2 : m ≤ ((b + 1 : Nat) : Int)
        · rw [if_pos h2, decide_eq_true (by omega)]; simp
        · rw [if_neg h2, decide_eq_false (by omega)]; simp
      rw [e]; rfl
    · rw [stp_true n m _ _ q hm, if_pos rfl, if_pos rfl]
      have e : (if n ≤ ((a + 1 : Nat) : Int) then true else if m ≤ ((0 : Nat) : Int) then false else q) = (q || decide (n ≤ (a : Int) + 1)) := by
        by_cases h2 : n ≤ ((a + 1 : Nat) : Int)
        · rw [if_pos h2, decide_eq_true (by omega)]; simp
        · rw [if_neg h2, if_neg (by omega), decide_eq_false (by omega)]; simp
      rw [e]; rfl
/-- What Run returns for each claim. -/
theorem runL_get (n m : Int) (s : St) (cs : List Bool) (k : Nat) (hk : k < cs.length) (hl : k < (runL n m s cs).length) : (runL n m s cs)[k] = (runS n m s (cs.take (k + 1))).2.2 := by
  induction cs generalizing s k with
  | nil => cases hk
  | cons c cs ih =>
    cases k with
    | zero => rfl
    | succ k => exact ih (stp n m s c) k (by simpa using hk) (by simpa [runL] using hl)
theorem runL_want (n m : Int) (cs : List Bool) (hn : 1 ≤ n) (hm : 1 ≤ m) (k : Nat) (hk : k < cs.length) (hl : k < (runL n m (0, 0, false) cs).length) : (runL n m (0, 0, false) cs)[k] = wantN n m cs (k + 1) := by
  rw [runL_get n m _ cs k hk hl, run_want n m cs hn hm (k + 1) hk]
end Go.Proofs.Ytffchacanekhgaa.Plain
