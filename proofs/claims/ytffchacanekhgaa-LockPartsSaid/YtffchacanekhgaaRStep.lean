/-
  WALKS: step, Run of the reference.
-/
import Derived.Test.YtffchacanekhgaaRunC
import Derived.Deep.RegionHeld3
import Derived.Deep.RegionWith
namespace Go.Proofs.Ytffchacanekhgaa
open Go.RowKit

theorem step27_clo_t (n m u d : Int) (w : World) (hn2 : n ≤ 100) (hu : 0 ≤ u) (hs : u + 1 < n) : Calls Try.prog 27 #[.agg #[.int .i64 n, .int .i64 m, .int .i64 u, .int .i64 d, .bool true], .bool true] w fun e w' => e = .returned (.agg #[.int .i64 n, .int .i64 m, .int .i64 (u + 1), .int .i64 0, .bool true]) ∧ Below w.heap.size w w' := by
  go_enter Try.func27, Try.ntmps27
  go_wp2_with fail
  refine bodyPost_ret (v := .agg #[.int .i64 n, .int .i64 m, .int .i64 (u + 1), .int .i64 0, .bool true]) (by simp [results, Try.results27, go_sem]) rfl ⟨rfl, ?_⟩
  exact below2 _ _ _

theorem step27_ceq_t (n m u d : Int) (w : World) (hn2 : n ≤ 100) (hu : 0 ≤ u) (hs : u + 1 = n) : Calls Try.prog 27 #[.agg #[.int .i64 n, .int .i64 m, .int .i64 u, .int .i64 d, .bool true], .bool true] w fun e w' => e = .returned (.agg #[.int .i64 n, .int .i64 m, .int .i64 (u + 1), .int .i64 0, .bool true]) ∧ Below w.heap.size w w' := by
  have hq : (u + 1 == n) = true := beq_iff_eq.2 hs
  have hs2 : u + 1 ≤ n := by omega
  clear hs
  go_enter Try.func27, Try.ntmps27
  go_wp2_with fail
  refine bodyPost_ret (v := .agg #[.int .i64 n, .int .i64 m, .int .i64 (u + 1), .int .i64 0, .bool true]) (by simp [results, Try.results27, go_sem]) rfl ⟨rfl, ?_⟩
  exact below2 _ _ _

theorem step27_chi_t (n m u d : Int) (w : World) (hn2 : n ≤ 100) (hu : 0 ≤ u) (hu2 : u ≤ n) (hs : n < u + 1) : Calls Try.prog 27 #[.agg #[.int .i64 n, .int .i64 m, .int .i64 u, .int .i64 d, .bool true], .bool true] w fun e w' => e = .returned (.agg #[.int .i64 n, .int .i64 m, .int .i64 n, .int .i64 0, .bool true]) ∧ Below w.heap.size w w' := by
  have hq : (n == n) = true := beq_iff_eq.2 rfl
  go_enter Try.func27, Try.ntmps27
  go_wp2_with fail
  refine bodyPost_ret (v := .agg #[.int .i64 n, .int .i64 m, .int .i64 n, .int .i64 0, .bool true]) (by simp [results, Try.results27, go_sem]) rfl ⟨rfl, ?_⟩
  exact below2 _ _ _

theorem step27_mlo_t (n m u d : Int) (w : World) (hm2 : m ≤ 100) (hd : 0 ≤ d) (hs : d + 1 < m) : Calls Try.prog 27 #[.agg #[.int .i64 n, .int .i64 m, .int .i64 u, .int .i64 d, .bool true], .bool false] w fun e w' => e = .returned (.agg #[.int .i64 n, .int .i64 m, .int .i64 0, .int .i64 (d + 1), .bool true]) ∧ Below w.heap.size w w' := by
  go_enter Try.func27, Try.ntmps27
  go_wp2_with fail
  refine bodyPost_ret (v := .agg #[.int .i64 n, .int .i64 m, .int .i64 0, .int .i64 (d + 1), .bool true]) (by simp [results, Try.results27, go_sem]) rfl ⟨rfl, ?_⟩
  exact below2 _ _ _

theorem step27_meq_t (n m u d : Int) (w : World) (hm2 : m ≤ 100) (hd : 0 ≤ d) (hs : d + 1 = m) : Calls Try.prog 27 #[.agg #[.int .i64 n, .int .i64 m, .int .i64 u, .int .i64 d, .bool true], .bool false] w fun e w' => e = .returned (.agg #[.int .i64 n, .int .i64 m, .int .i64 0, .int .i64 (d + 1), .bool false]) ∧ Below w.heap.size w w' := by
  have hq : ¬ (d + 1 < m) := by omega
  have hs2 : d + 1 ≤ m := by omega
  clear hs
  go_enter Try.func27, Try.ntmps27
  go_wp2_with fail
  refine bodyPost_ret (v := .agg #[.int .i64 n, .int .i64 m, .int .i64 0, .int .i64 (d + 1), .bool false]) (by simp [results, Try.results27, go_sem]) rfl ⟨rfl, ?_⟩
  exact below2 _ _ _

theorem step27_mhi_t (n m u d : Int) (w : World) (hm2 : m ≤ 100) (hd : 0 ≤ d) (hd2 : d ≤ m) (hs : m < d + 1) : Calls Try.prog 27 #[.agg #[.int .i64 n, .int .i64 m, .int .i64 u, .int .i64 d, .bool true], .bool false] w fun e w' => e = .returned (.agg #[.int .i64 n, .int .i64 m, .int .i64 0, .int .i64 m, .bool false]) ∧ Below w.heap.size w w' := by
  go_enter Try.func27, Try.ntmps27
  go_wp2_with fail
  refine bodyPost_ret (v := .agg #[.int .i64 n, .int .i64 m, .int .i64 0, .int .i64 m, .bool false]) (by simp [results, Try.results27, go_sem]) rfl ⟨rfl, ?_⟩
  exact below2 _ _ _

theorem step27_clo_f (n m u d : Int) (w : World) (hn2 : n ≤ 100) (hu : 0 ≤ u) (hs : u + 1 < n) : Calls Try.prog 27 #[.agg #[.int .i64 n, .int .i64 m, .int .i64 u, .int .i64 d, .bool false], .bool true] w fun e w' => e = .returned (.agg #[.int .i64 n, .int .i64 m, .int .i64 (u + 1), .int .i64 0, .bool false]) ∧ Below w.heap.size w w' := by
  have hq : (u + 1 == n) = false := beq_eq_false_iff_ne.2 (by omega)
  go_enter Try.func27, Try.ntmps27
  go_wp2_with fail
  refine bodyPost_ret (v := .agg #[.int .i64 n, .int .i64 m, .int .i64 (u + 1), .int .i64 0, .bool false]) (by simp [results, Try.results27, go_sem]) rfl ⟨rfl, ?_⟩
  exact below2 _ _ _

theorem step27_ceq_f (n m u d : Int) (w : World) (hn2 : n ≤ 100) (hu : 0 ≤ u) (hs : u + 1 = n) : Calls Try.prog 27 #[.agg #[.int .i64 n, .int .i64 m, .int .i64 u, .int .i64 d, .bool false], .bool true] w fun e w' => e = .returned (.agg #[.int .i64 n, .int .i64 m, .int .i64 (u + 1), .int .i64 0, .bool true]) ∧ Below w.heap.size w w' := by
  have hq : (u + 1 == n) = true := beq_iff_eq.2 hs
  have hs2 : u + 1 ≤ n := by omega
  clear hs
  go_enter Try.func27, Try.ntmps27
  go_wp2_with fail
  refine bodyPost_ret (v := .agg #[.int .i64 n, .int .i64 m, .int .i64 (u + 1), .int .i64 0, .bool true]) (by simp [results, Try.results27, go_sem]) rfl ⟨rfl, ?_⟩
  exact below2 _ _ _

theorem step27_chi_f (n m u d : Int) (w : World) (hn2 : n ≤ 100) (hu : 0 ≤ u) (hu2 : u ≤ n) (hs : n < u + 1) : Calls Try.prog 27 #[.agg #[.int .i64 n, .int .i64 m, .int .i64 u, .int .i64 d, .bool false], .bool true] w fun e w' => e = .returned (.agg #[.int .i64 n, .int .i64 m, .int .i64 n, .int .i64 0, .bool true]) ∧ Below w.heap.size w w' := by
  have hq : (n == n) = true := beq_iff_eq.2 rfl
  go_enter Try.func27, Try.ntmps27
  go_wp2_with fail
  refine bodyPost_ret (v := .agg #[.int .i64 n, .int .i64 m, .int .i64 n, .int .i64 0, .bool true]) (by simp [results, Try.results27, go_sem]) rfl ⟨rfl, ?_⟩
  exact below2 _ _ _

theorem step27_mlo_f (n m u d : Int) (w : World) (hm2 : m ≤ 100) (hd : 0 ≤ d) (hs : d + 1 < m) : Calls Try.prog 27 #[.agg #[.int .i64 n, .int .i64 m, .int .i64 u, .int .i64 d, .bool false], .bool false] w fun e w' => e = .returned (.agg #[.int .i64 n, .int .i64 m, .int .i64 0, .int .i64 (d + 1), .bool false]) ∧ Below w.heap.size w w' := by
  go_enter Try.func27, Try.ntmps27
  go_wp2_with fail
  refine bodyPost_ret (v := .agg #[.int .i64 n, .int .i64 m, .int .i64 0, .int .i64 (d + 1), .bool false]) (by simp [results, Try.results27, go_sem]) rfl ⟨rfl, ?_⟩
  exact below2 _ _ _

theorem step27_meq_f (n m u d : Int) (w : World) (hm2 : m ≤ 100) (hd : 0 ≤ d) (hs : d + 1 = m) : Calls Try.prog 27 #[.agg #[.int .i64 n, .int .i64 m, .int .i64 u, .int .i64 d, .bool false], .bool false] w fun e w' => e = .returned (.agg #[.int .i64 n, .int .i64 m, .int .i64 0, .int .i64 (d + 1), .bool false]) ∧ Below w.heap.size w w' := by
  have hq : ¬ (d + 1 < m) := by omega
  have hs2 : d + 1 ≤ m := by omega
  clear hs
  go_enter Try.func27, Try.ntmps27
  go_wp2_with fail
  refine bodyPost_ret (v := .agg #[.int .i64 n, .int .i64 m, .int .i64 0, .int .i64 (d + 1), .bool false]) (by simp [results, Try.results27, go_sem]) rfl ⟨rfl, ?_⟩
  exact below2 _ _ _

theorem step27_mhi_f (n m u d : Int) (w : World) (hm2 : m ≤ 100) (hd : 0 ≤ d) (hd2 : d ≤ m) (hs : m < d + 1) : Calls Try.prog 27 #[.agg #[.int .i64 n, .int .i64 m, .int .i64 u, .int .i64 d, .bool false], .bool false] w fun e w' => e = .returned (.agg #[.int .i64 n, .int .i64 m, .int .i64 0, .int .i64 m, .bool false]) ∧ Below w.heap.size w w' := by
  go_enter Try.func27, Try.ntmps27
  go_wp2_with fail
  refine bodyPost_ret (v := .agg #[.int .i64 n, .int .i64 m, .int .i64 0, .int .i64 m, .bool false]) (by simp [results, Try.results27, go_sem]) rfl ⟨rfl, ?_⟩
  exact below2 _ _ _

theorem step27_any (c : Bool) (n m u d : Int) (b : Bool) (w : World) (hv : Plain.chk n m u d b = 0) : Calls Try.prog 27 #[.agg #[.int .i64 n, .int .i64 m, .int .i64 u, .int .i64 d, .bool b], .bool c] w fun e w' => e = .returned (.agg #[.int .i64 n, .int .i64 m, .int .i64 (Plain.stU n u c), .int .i64 (Plain.stD m d c), .bool (Plain.stB n m u d b c)]) ∧ Below w.heap.size w w' := by
  obtain ⟨_, a2, _, a4, b1, b2, b3, b4⟩ := Plain.chk_bd n m u d b hv
  cases c
  · have e1 : Plain.stU n u false = 0 := rfl
    have e3 : Plain.stB n m u d b false = (b && decide (Plain.stD m d false < m)) := rfl
    by_cases hs : d + 1 ≤ m
    · have e2 : Plain.stD m d false = d + 1 := by show (if d + 1 ≤ m then d + 1 else m) = _; rw [if_pos hs]
      by_cases hq : d + 1 = m
      · have hne : decide (d + 1 < m) = false := decide_eq_false (by omega)
        rw [e3, e1, e2, hne, Bool.and_false]
        cases b
        · exact step27_meq_f n m u d w a4 b3 hq
        · exact step27_meq_t n m u d w a4 b3 hq
      · have hne : decide (d + 1 < m) = true := decide_eq_true (by omega)
        rw [e3, e1, e2, hne, Bool.and_true]
        cases b
        · exact step27_mlo_f n m u d w a4 b3 (by omega)
        · exact step27_mlo_t n m u d w a4 b3 (by omega)
    · have e2 : Plain.stD m d false = m := by show (if d + 1 ≤ m then d + 1 else m) = _; rw [if_neg hs]
      have hne : decide (m < m) = false := decide_eq_false (by omega)
      rw [e3, e1, e2, hne, Bool.and_false]
      cases b
      · exact step27_mhi_f n m u d w a4 b3 b4 (by omega)
      · exact step27_mhi_t n m u d w a4 b3 b4 (by omega)
  · have e2 : Plain.stD m d true = 0 := rfl
    have e3 : Plain.stB n m u d b true = (b || Plain.stU n u true == n) := rfl
    by_cases hs : u + 1 ≤ n
    · have e1 : Plain.stU n u true = u + 1 := by show (if u + 1 ≤ n then u + 1 else n) = _; rw [if_pos hs]
      by_cases hq : u + 1 = n
      · have hne : (u + 1 == n) = true := beq_iff_eq.2 hq
        rw [e3, e1, e2, hne, Bool.or_true]
        cases b
        · exact step27_ceq_f n m u d w a2 b1 hq
        · exact step27_ceq_t n m u d w a2 b1 hq
      · have hne : (u + 1 == n) = false := beq_eq_false_iff_ne.2 hq
        rw [e3, e1, e2, hne, Bool.or_false]
        cases b
        · exact step27_clo_f n m u d w a2 b1 (by omega)
        · exact step27_clo_t n m u d w a2 b1 (by omega)
    · have e1 : Plain.stU n u true = n := by show (if u + 1 ≤ n then u + 1 else n) = _; rw [if_neg hs]
      rw [e3, e1, e2, beq_self_eq_true, Bool.or_true]
      cases b
      · exact step27_chi_f n m u d w a2 b1 b2 (by omega)
      · exact step27_chi_t n m u d w a2 b1 b2 (by omega)

end Go.Proofs.Ytffchacanekhgaa
