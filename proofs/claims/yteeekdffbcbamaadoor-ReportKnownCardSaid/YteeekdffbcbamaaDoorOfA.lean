/-
  WALKS: a number below a bound, a number of a list (package skyfixkit).
-/
import Derived.Test.YteeekdffbcbamaaDoorG6
namespace Go.Proofs.YteeekdffbcbamaaDoor
open Go.RowKit

/-- A number of a list, 0 beyond. -/
def nthZ (l : List Int) (i : Int) : Int := if i < 0 then 0 else l.getD i.toNat 0
theorem emod_tmod {n k : Int} (hk : 1 ≤ k) : n % k = if n.tmod k < 0 then n.tmod k + k else n.tmod k := by
  have h1 := Int.emod_nonneg n (show k ≠ 0 by omega)
  have h2 := Int.emod_lt_of_pos n (show 0 < k by omega)
  by_cases hn : 0 ≤ n
  · have : n.tmod k = n % k := Int.tmod_eq_emod_of_nonneg hn
    rw [this, if_neg (by omega)]
  · have h3 : n.tmod k = -((-n).tmod k) := by rw [Int.neg_tmod, Int.neg_neg]
    have h4 : (-n).tmod k = (-n) % k := Int.tmod_eq_emod_of_nonneg (by omega)
    have h5 := Int.emod_nonneg (-n) (show k ≠ 0 by omega)
    have h6 := Int.emod_lt_of_pos (-n) (show 0 < k by omega)
    have e1 := Int.emod_add_mul_ediv n k
    have e2 := Int.emod_add_mul_ediv (-n) k
    have hq : n % k + (-n) % k = k * (-(n / k) - (-n) / k) := by rw [Int.mul_sub, Int.mul_neg]; omega
    rw [h3, h4]
    generalize n % k = a at *
    generalize (-n) % k = b at *
    generalize -(n / k) - (-n) / k = q at *
    have hq0 : 0 ≤ q := by
      by_cases hq0 : 0 ≤ q
      · exact hq0
      · have : k * q ≤ k * (-1) := Int.mul_le_mul_of_nonneg_left (by omega) (by omega)
        omega
    have hq2 : q ≤ 1 := by
      by_cases hq2 : q ≤ 1
      · exact hq2
      · have : k * 2 ≤ k * q := Int.mul_le_mul_of_nonneg_left (by omega) (by omega)
        omega
    have hq3 : q = 0 ∨ q = 1 := by omega
    rcases hq3 with rfl | rfl
    · rw [Int.mul_zero] at hq
      rw [if_neg (by omega)]; omega
    · rw [Int.mul_one] at hq
      by_cases hb : b = 0
      · omega
      · rw [if_pos (by omega)]; omega
theorem tmod_lt {n k : Int} (hk : 1 ≤ k) : -k ≤ n.tmod k ∧ n.tmod k < k := by
  have := emod_tmod (n := n) hk
  have h1 := Int.emod_nonneg n (show k ≠ 0 by omega)
  have h2 := Int.emod_lt_of_pos n (show 0 < k by omega)
  by_cases h : n.tmod k < 0
  · rw [if_pos h] at this
    rw [this] at h1 h2
    omega
  · rw [if_neg h] at this
    rw [this] at h1 h2
    omega
set_option maxHeartbeats 1000000 in
theorem below_any (n k : Int) (w : World) (hk : 1 ≤ k) (hk1 : k ≤ 9223372036854775807) :
    Calls Tryd.prog 17 #[.int .i64 n, .int .i64 k] w fun e w' => e = .returned (.int .i64 (n % k)) ∧ w = w' := by
  have he := emod_tmod (n := n) hk
  obtain ⟨hl1, hl2⟩ := tmod_lt (n := n) hk
  rw [he]
  clear he
  have hk' : ¬ k < 1 := by omega
  have hk0 : ¬ k = 0 := by omega
  have hkm : ¬ k = -1 := by omega
  by_cases hn : n.tmod k < 0
  · rw [if_pos hn]
    go_enter Tryd.func17, Tryd.ntmps17
    go_wp2_with fail
    go_ret
    exact ⟨rfl, rfl⟩
  · rw [if_neg hn]
    go_enter Tryd.func17, Tryd.ntmps17
    go_wp2_with fail
    go_ret
    exact ⟨rfl, rfl⟩
theorem nthZ_in {l : List Int} (h : ∀ z ∈ l, -9223372036854775808 ≤ z ∧ z ≤ 9223372036854775807) (i : Int) : -9223372036854775808 ≤ nthZ l i ∧ nthZ l i ≤ 9223372036854775807 := by
  unfold nthZ
  split
  · omega
  · by_cases hi : i.toNat < l.length
    · rw [List.getD_eq_getElem?_getD, List.getElem?_eq_getElem hi]
      exact h _ (List.getElem_mem hi)
    · rw [List.getD_eq_getElem?_getD, List.getElem?_eq_none (by omega)]
      decide
set_option maxHeartbeats 1000000 in
theorem nth_any (l : List Int) (A : Option Addr) (n c : Nat) (i : Int) (w : World) (hn : l.length = n) (h : PrL w A l) :
    Calls Tryd.prog 22 #[.slice A n c, .int .i64 i] w fun e w' => e = .returned (.int .i64 (nthZ l i)) ∧ w = w' := by
  unfold nthZ
  by_cases h0 : i < 0
  · rw [if_pos h0]
    go_enter Tryd.func22, Tryd.ntmps22
    go_wp2_with fail
    go_ret
    exact ⟨rfl, rfl⟩
  · rw [if_neg h0]
    by_cases h1 : (n : Int) ≤ i
    · rw [List.getD_eq_getElem?_getD, List.getElem?_eq_none (by omega)]
      go_enter Tryd.func22, Tryd.ntmps22
      go_wp2_with fail
      go_ret
      exact ⟨rfl, rfl⟩
    · obtain ⟨k, rfl⟩ : ∃ k : Nat, i = k := ⟨i.toNat, by omega⟩
      have hk : k < l.length := by omega
      rw [List.getD_eq_getElem?_getD, Int.toNat_natCast, List.getElem?_eq_getElem hk]
      obtain ⟨a, rfl, g⟩ := h k hk
      show Calls Tryd.prog _ _ w fun e w' => e = .returned (.int .i64 l[k]) ∧ w = w'
      generalize l[k] = z at *
      have HN := Lib.hid hn; clear hn
      have hlt : (k : Int) < n := by have := HN.out; omega
      have hlt2 : k < n := by omega
      clear h hk
      go_enter Tryd.func22, Tryd.ntmps22
      go_wp2_with fail
      go_ret
      exact ⟨rfl, rfl⟩
end Go.Proofs.YteeekdffbcbamaaDoor
