/-
  WALKS: of, right, Check, New of package lock; New, Check of the reference.
-/
import Derived.Test.YtffchacanekhgaaProg
import Derived.Test.YtffchacanekhgaaPlain
import Derived.WalkKit
import Derived.WalkSpells
import Derived.Below
import Derived.BigQuiet
import Derived.Deep.QuietTactic
import Derived.Lib.Hide
import Derived.RegionTactic
import Derived.Outline
import Derived.Laws.StructEq
import Derived.ChangeKeysEq
namespace Go.Proofs.Ytffchacanekhgaa
open Go.RowKit

theorem below1 (w : World) (o : Obj) : Below w.heap.size w (w.alloc o) := (Below.refl _ _).alloc (Nat.le_refl _) _
theorem below2 (w : World) (o o' : Obj) : Below w.heap.size w ((w.alloc o).alloc o') := (below1 w o).alloc (by simp) _
theorem below_drewN {B : Nat} {a w : World} (h : Below B a w) (n : Nat) : Below B a (w.drewN n) := ⟨h.os, h.tape, h.output, h.size, h.block⟩

theorem eq23 (n m u d n' m' u' d' : Int) (b b' : Bool) (w : World) : (Op.equalIn 10000 23 (.agg #[.int .i64 n, .int .i64 m, .int .i64 u, .int .i64 d, .bool b]) (.agg #[.int .i64 n', .int .i64 m', .int .i64 u', .int .i64 d', .bool b'])).run Try.prog w =
    .ok (n == n' && (m == m' && (u == u' && (d == d' && b == b')))) w := by
  have u3 := Try.underlying3
  have u4 := Try.underlying4
  have z3 := Try.sizeOf3
  have z4 := Try.sizeOf4
  have a3 := Try.isAgg3
  have a4 := Try.isAgg4
  have hS : Try.prog.underlying 23 = some (.struct (Try.prog.fieldsOf 23)) := by kernel_rfl
  have hp : Try.prog.stoodInHeld 23 = false := by kernel_rfl
  rw [show (10000 : Nat) = 9999 + 1 from rfl, run_equalIn_agg w 9999 23 _ _ hS hp]
  simp only [Program.fieldsOf, Try.underlying23]
  go_simp
  by_cases h1 : n = n' <;> by_cases h2 : m = m' <;> by_cases h3 : u = u' <;> by_cases h4 : d = d' <;> by_cases h5 : b = b' <;> simp [h1, h2, h3, h4, h5]

theorem cells3 : Try.prog.cellsOf 3 = 1 := by kernel_rfl
theorem info3 : (Try.prog.info? 3).isSome = true := by kernel_rfl
theorem eq53 (u d u' d' : Int) (w : World) : (Op.equalIn 10000 53 (.agg #[.int .i64 u, .int .i64 d]) (.agg #[.int .i64 u', .int .i64 d'])).run Try.prog w = .ok (u == u' && d == d') w := by
  have u3 := Try.underlying3
  have z3 := Try.sizeOf3
  have a3 := Try.isAgg3
  obtain ⟨i, hi⟩ := Option.isSome_iff_exists.1 info3
  rw [show (10000 : Nat) = 9998 + 1 + 1 from rfl, run_equalIn_array w (9998 + 1) _ _ Try.underlying53 hi, cells3, show List.range 2 = [0, 1] from rfl]
  generalize 9998 = k
  simp only [Op.eqItems]
  go_simp
  by_cases h1 : u = u' <;> by_cases h2 : d = d' <;> simp [h1, h2]

theorem eq53_yes (w : World) : (Op.equalIn 10000 53 (.agg #[.int .i64 0, .int .i64 0]) (.agg #[.int .i64 0, .int .i64 0])).run Try.prog w = .ok true w := eq53 0 0 0 0 w
theorem eq53_no (u d : Int) (h : ¬ (u = 0 ∧ d = 0)) (w : World) : (Op.equalIn 10000 53 (.agg #[.int .i64 u, .int .i64 d]) (.agg #[.int .i64 0, .int .i64 0])).run Try.prog w = .ok false w := by
  rw [eq53]
  have : (u == 0 && d == 0) = false := by
    rw [Bool.eq_false_iff]; simpa using h
  rw [this]

theorem of_any (n m u d : Int) (b : Bool) (w : World) : Calls Try.prog 29 #[.agg #[.int .i64 n, .int .i64 m, .int .i64 u, .int .i64 d, .bool b]] w fun e w' => e = .returned (.agg #[.int .i64 u, .int .i64 d]) ∧ Below w.heap.size w w' := by
  go_enter Try.func29, Try.ntmps29
  go_wp2
  refine bodyPost_ret (v := .agg #[.int .i64 u, .int .i64 d]) (by simp [results, Try.results29, go_sem]) rfl ⟨rfl, ?_⟩
  exact below2 _ _ _

theorem right_z (n m : Int) (b : Bool) (w : World)  : Calls Try.prog 28 #[.agg #[.int .i64 n, .int .i64 m, .int .i64 0, .int .i64 0, .bool b]] w fun e w' => e = .returned (.bool (!b)) ∧ Below w.heap.size w w' := by
  have heq := eq53_yes
  go_enter Try.func28, Try.ntmps28
  go_wp2_with fail
  refine (of_any _ _ _ _ _ _).mono ?_
  rintro e w1 ⟨rfl, hb1⟩
  have hlt : w.heap.size < w1.heap.size := by have := hb1.size; simp at this; omega
  have hc0 := hb1.cell (p := ⟨w.heap.size, 0, none⟩) (by simp)
  have hc1 := hb1.cell (p := ⟨w.heap.size, 1, none⟩) (by simp)
  have hc2 := hb1.cell (p := ⟨w.heap.size, 2, none⟩) (by simp)
  have hc3 := hb1.cell (p := ⟨w.heap.size, 3, none⟩) (by simp)
  have hc4 := hb1.cell (p := ⟨w.heap.size, 4, none⟩) (by simp)
  go_wp2_with fail
  go_ret
  have k1 : Below w.heap.size w w1 := (below1 w _).trans (hb1.mono (by simp))
  exact ⟨rfl, k1.alloc k1.size _⟩

theorem right_1 (n m u d : Int) (b : Bool) (w : World) (hz : ¬ (u = 0 ∧ d = 0)) (h1 : u < 0) : Calls Try.prog 28 #[.agg #[.int .i64 n, .int .i64 m, .int .i64 u, .int .i64 d, .bool b]] w fun e w' => e = .returned (.bool false) ∧ Below w.heap.size w w' := by
  have heq := eq53_no u d hz; clear hz
  go_enter Try.func28, Try.ntmps28
  go_wp2_with fail
  refine (of_any _ _ _ _ _ _).mono ?_
  rintro e w1 ⟨rfl, hb1⟩
  have hlt : w.heap.size < w1.heap.size := by have := hb1.size; simp at this; omega
  have hc0 := hb1.cell (p := ⟨w.heap.size, 0, none⟩) (by simp)
  have hc1 := hb1.cell (p := ⟨w.heap.size, 1, none⟩) (by simp)
  have hc2 := hb1.cell (p := ⟨w.heap.size, 2, none⟩) (by simp)
  have hc3 := hb1.cell (p := ⟨w.heap.size, 3, none⟩) (by simp)
  have hc4 := hb1.cell (p := ⟨w.heap.size, 4, none⟩) (by simp)
  go_wp2_with fail
  go_ret
  have k1 : Below w.heap.size w w1 := (below1 w _).trans (hb1.mono (by simp))
  exact ⟨rfl, k1.alloc k1.size _⟩

theorem right_2 (n m u d : Int) (b : Bool) (w : World) (hz : ¬ (u = 0 ∧ d = 0)) (h1 : 0 ≤ u) (h2 : d < 0) : Calls Try.prog 28 #[.agg #[.int .i64 n, .int .i64 m, .int .i64 u, .int .i64 d, .bool b]] w fun e w' => e = .returned (.bool false) ∧ Below w.heap.size w w' := by
  have heq := eq53_no u d hz; clear hz
  go_enter Try.func28, Try.ntmps28
  go_wp2_with fail
  refine (of_any _ _ _ _ _ _).mono ?_
  rintro e w1 ⟨rfl, hb1⟩
  have hlt : w.heap.size < w1.heap.size := by have := hb1.size; simp at this; omega
  have hc0 := hb1.cell (p := ⟨w.heap.size, 0, none⟩) (by simp)
  have hc1 := hb1.cell (p := ⟨w.heap.size, 1, none⟩) (by simp)
  have hc2 := hb1.cell (p := ⟨w.heap.size, 2, none⟩) (by simp)
  have hc3 := hb1.cell (p := ⟨w.heap.size, 3, none⟩) (by simp)
  have hc4 := hb1.cell (p := ⟨w.heap.size, 4, none⟩) (by simp)
  go_wp2_with fail
  go_ret
  have k1 : Below w.heap.size w w1 := (below1 w _).trans (hb1.mono (by simp))
  exact ⟨rfl, k1.alloc k1.size _⟩

theorem right_3 (n m u d : Int) (b : Bool) (w : World) (hz : ¬ (u = 0 ∧ d = 0)) (h1 : 0 ≤ u) (h2 : 0 ≤ d) (h3 : n < u) : Calls Try.prog 28 #[.agg #[.int .i64 n, .int .i64 m, .int .i64 u, .int .i64 d, .bool b]] w fun e w' => e = .returned (.bool false) ∧ Below w.heap.size w w' := by
  have heq := eq53_no u d hz; clear hz
  go_enter Try.func28, Try.ntmps28
  go_wp2_with fail
  refine (of_any _ _ _ _ _ _).mono ?_
  rintro e w1 ⟨rfl, hb1⟩
  have hlt : w.heap.size < w1.heap.size := by have := hb1.size; simp at this; omega
  have hc0 := hb1.cell (p := ⟨w.heap.size, 0, none⟩) (by simp)
  have hc1 := hb1.cell (p := ⟨w.heap.size, 1, none⟩) (by simp)
  have hc2 := hb1.cell (p := ⟨w.heap.size, 2, none⟩) (by simp)
  have hc3 := hb1.cell (p := ⟨w.heap.size, 3, none⟩) (by simp)
  have hc4 := hb1.cell (p := ⟨w.heap.size, 4, none⟩) (by simp)
  go_wp2_with fail
  go_ret
  have k1 : Below w.heap.size w w1 := (below1 w _).trans (hb1.mono (by simp))
  exact ⟨rfl, k1.alloc k1.size _⟩

theorem right_4 (n m u d : Int) (b : Bool) (w : World) (hz : ¬ (u = 0 ∧ d = 0)) (h1 : 0 ≤ u) (h2 : 0 ≤ d) (h3 : u ≤ n) (h4 : m < d) : Calls Try.prog 28 #[.agg #[.int .i64 n, .int .i64 m, .int .i64 u, .int .i64 d, .bool b]] w fun e w' => e = .returned (.bool false) ∧ Below w.heap.size w w' := by
  have heq := eq53_no u d hz; clear hz
  go_enter Try.func28, Try.ntmps28
  go_wp2_with fail
  refine (of_any _ _ _ _ _ _).mono ?_
  rintro e w1 ⟨rfl, hb1⟩
  have hlt : w.heap.size < w1.heap.size := by have := hb1.size; simp at this; omega
  have hc0 := hb1.cell (p := ⟨w.heap.size, 0, none⟩) (by simp)
  have hc1 := hb1.cell (p := ⟨w.heap.size, 1, none⟩) (by simp)
  have hc2 := hb1.cell (p := ⟨w.heap.size, 2, none⟩) (by simp)
  have hc3 := hb1.cell (p := ⟨w.heap.size, 3, none⟩) (by simp)
  have hc4 := hb1.cell (p := ⟨w.heap.size, 4, none⟩) (by simp)
  go_wp2_with fail
  go_ret
  have k1 : Below w.heap.size w w1 := (below1 w _).trans (hb1.mono (by simp))
  exact ⟨rfl, k1.alloc k1.size _⟩

theorem right_5 (n m u d : Int) (b : Bool) (w : World) (hz : ¬ (u = 0 ∧ d = 0)) (h1 : 0 < u) (h2 : 0 < d) (h3 : u ≤ n) (h4 : d ≤ m) : Calls Try.prog 28 #[.agg #[.int .i64 n, .int .i64 m, .int .i64 u, .int .i64 d, .bool b]] w fun e w' => e = .returned (.bool false) ∧ Below w.heap.size w w' := by
  have heq := eq53_no u d hz; clear hz
  go_enter Try.func28, Try.ntmps28
  go_wp2_with fail
  refine (of_any _ _ _ _ _ _).mono ?_
  rintro e w1 ⟨rfl, hb1⟩
  have hlt : w.heap.size < w1.heap.size := by have := hb1.size; simp at this; omega
  have hc0 := hb1.cell (p := ⟨w.heap.size, 0, none⟩) (by simp)
  have hc1 := hb1.cell (p := ⟨w.heap.size, 1, none⟩) (by simp)
  have hc2 := hb1.cell (p := ⟨w.heap.size, 2, none⟩) (by simp)
  have hc3 := hb1.cell (p := ⟨w.heap.size, 3, none⟩) (by simp)
  have hc4 := hb1.cell (p := ⟨w.heap.size, 4, none⟩) (by simp)
  go_wp2_with fail
  go_ret
  have k1 : Below w.heap.size w w1 := (below1 w _).trans (hb1.mono (by simp))
  exact ⟨rfl, k1.alloc k1.size _⟩

theorem right_6 (n m : Int) (b : Bool) (w : World) (h1 : 0 < n) (h4 : 0 ≤ m) : Calls Try.prog 28 #[.agg #[.int .i64 n, .int .i64 m, .int .i64 n, .int .i64 0, .bool b]] w fun e w' => e = .returned (.bool b) ∧ Below w.heap.size w w' := by
  have heq := eq53_no n 0 (by omega)
  go_enter Try.func28, Try.ntmps28
  go_wp2_with fail
  refine (of_any _ _ _ _ _ _).mono ?_
  rintro e w1 ⟨rfl, hb1⟩
  have hlt : w.heap.size < w1.heap.size := by have := hb1.size; simp at this; omega
  have hc0 := hb1.cell (p := ⟨w.heap.size, 0, none⟩) (by simp)
  have hc1 := hb1.cell (p := ⟨w.heap.size, 1, none⟩) (by simp)
  have hc2 := hb1.cell (p := ⟨w.heap.size, 2, none⟩) (by simp)
  have hc3 := hb1.cell (p := ⟨w.heap.size, 3, none⟩) (by simp)
  have hc4 := hb1.cell (p := ⟨w.heap.size, 4, none⟩) (by simp)
  go_wp2_with fail
  go_ret
  have k1 : Below w.heap.size w w1 := (below1 w _).trans (hb1.mono (by simp))
  exact ⟨rfl, k1.alloc k1.size _⟩

theorem right_7 (n m u : Int) (w : World) (h1 : 0 < u) (h2 : u < n) (h3 : 0 < m) : Calls Try.prog 28 #[.agg #[.int .i64 n, .int .i64 m, .int .i64 u, .int .i64 0, .bool false]] w fun e w' => e = .returned (.bool true) ∧ Below w.heap.size w w' := by
  have heq := eq53_no u 0 (by omega)
  go_enter Try.func28, Try.ntmps28
  go_wp2_with fail
  refine (of_any _ _ _ _ _ _).mono ?_
  rintro e w1 ⟨rfl, hb1⟩
  have hlt : w.heap.size < w1.heap.size := by have := hb1.size; simp at this; omega
  have hc0 := hb1.cell (p := ⟨w.heap.size, 0, none⟩) (by simp)
  have hc1 := hb1.cell (p := ⟨w.heap.size, 1, none⟩) (by simp)
  have hc2 := hb1.cell (p := ⟨w.heap.size, 2, none⟩) (by simp)
  have hc3 := hb1.cell (p := ⟨w.heap.size, 3, none⟩) (by simp)
  have hc4 := hb1.cell (p := ⟨w.heap.size, 4, none⟩) (by simp)
  go_wp2_with fail
  go_ret
  have k1 : Below w.heap.size w w1 := (below1 w _).trans (hb1.mono (by simp))
  exact ⟨rfl, k1.alloc k1.size _⟩

theorem right_8 (n m u : Int) (w : World) (h1 : 0 < u) (h2 : u < n) (h3 : 0 < m) : Calls Try.prog 28 #[.agg #[.int .i64 n, .int .i64 m, .int .i64 u, .int .i64 0, .bool true]] w fun e w' => e = .returned (.bool (decide (1 < m))) ∧ Below w.heap.size w w' := by
  have heq := eq53_no u 0 (by omega)
  go_enter Try.func28, Try.ntmps28
  go_wp2_with fail
  refine (of_any _ _ _ _ _ _).mono ?_
  rintro e w1 ⟨rfl, hb1⟩
  have hlt : w.heap.size < w1.heap.size := by have := hb1.size; simp at this; omega
  have hc0 := hb1.cell (p := ⟨w.heap.size, 0, none⟩) (by simp)
  have hc1 := hb1.cell (p := ⟨w.heap.size, 1, none⟩) (by simp)
  have hc2 := hb1.cell (p := ⟨w.heap.size, 2, none⟩) (by simp)
  have hc3 := hb1.cell (p := ⟨w.heap.size, 3, none⟩) (by simp)
  have hc4 := hb1.cell (p := ⟨w.heap.size, 4, none⟩) (by simp)
  go_wp2_with fail
  go_ret
  have k1 : Below w.heap.size w w1 := (below1 w _).trans (hb1.mono (by simp))
  exact ⟨rfl, k1.alloc k1.size _⟩

theorem right_9 (n m : Int) (b : Bool) (w : World) (h1 : 0 < n) (h4 : 0 < m) : Calls Try.prog 28 #[.agg #[.int .i64 n, .int .i64 m, .int .i64 0, .int .i64 m, .bool b]] w fun e w' => e = .returned (.bool (!b)) ∧ Below w.heap.size w w' := by
  have heq := eq53_no 0 m (by omega)
  go_enter Try.func28, Try.ntmps28
  go_wp2_with fail
  refine (of_any _ _ _ _ _ _).mono ?_
  rintro e w1 ⟨rfl, hb1⟩
  have hlt : w.heap.size < w1.heap.size := by have := hb1.size; simp at this; omega
  have hc0 := hb1.cell (p := ⟨w.heap.size, 0, none⟩) (by simp)
  have hc1 := hb1.cell (p := ⟨w.heap.size, 1, none⟩) (by simp)
  have hc2 := hb1.cell (p := ⟨w.heap.size, 2, none⟩) (by simp)
  have hc3 := hb1.cell (p := ⟨w.heap.size, 3, none⟩) (by simp)
  have hc4 := hb1.cell (p := ⟨w.heap.size, 4, none⟩) (by simp)
  go_wp2_with fail
  go_ret
  have k1 : Below w.heap.size w w1 := (below1 w _).trans (hb1.mono (by simp))
  exact ⟨rfl, k1.alloc k1.size _⟩

theorem right_10 (n m d : Int) (b : Bool) (w : World) (h1 : 0 < n) (h2 : 0 < d) (h3 : d < m) : Calls Try.prog 28 #[.agg #[.int .i64 n, .int .i64 m, .int .i64 0, .int .i64 d, .bool b]] w fun e w' => e = .returned (.bool true) ∧ Below w.heap.size w w' := by
  have heq := eq53_no 0 d (by omega)
  go_enter Try.func28, Try.ntmps28
  go_wp2_with fail
  refine (of_any _ _ _ _ _ _).mono ?_
  rintro e w1 ⟨rfl, hb1⟩
  have hlt : w.heap.size < w1.heap.size := by have := hb1.size; simp at this; omega
  have hc0 := hb1.cell (p := ⟨w.heap.size, 0, none⟩) (by simp)
  have hc1 := hb1.cell (p := ⟨w.heap.size, 1, none⟩) (by simp)
  have hc2 := hb1.cell (p := ⟨w.heap.size, 2, none⟩) (by simp)
  have hc3 := hb1.cell (p := ⟨w.heap.size, 3, none⟩) (by simp)
  have hc4 := hb1.cell (p := ⟨w.heap.size, 4, none⟩) (by simp)
  go_wp2_with fail
  go_ret
  have k1 : Below w.heap.size w w1 := (below1 w _).trans (hb1.mono (by simp))
  exact ⟨rfl, k1.alloc k1.size _⟩

theorem right_any (n m u d : Int) (b : Bool) (w : World) (hn : 1 ≤ n) (hm : 1 ≤ m) : Calls Try.prog 28 #[.agg #[.int .i64 n, .int .i64 m, .int .i64 u, .int .i64 d, .bool b]] w fun e w' => e = .returned (.bool (Plain.okB n m u d b)) ∧ Below w.heap.size w w' := by
  by_cases hz : u = 0 ∧ d = 0
  · obtain ⟨rfl, rfl⟩ := hz
    have e : Plain.okB n m 0 0 b = !b := by simp [Plain.okB]
    rw [e]; exact right_z n m b w
  by_cases h1 : u < 0
  · have e : Plain.okB n m u d b = false := by rw [Plain.okB, if_neg hz, if_pos (by omega)]
    rw [e]; exact right_1 n m u d b w hz h1
  by_cases h2 : d < 0
  · have e : Plain.okB n m u d b = false := by rw [Plain.okB, if_neg hz, if_pos (by omega)]
    rw [e]; exact right_2 n m u d b w hz (by omega) h2
  by_cases h3 : n < u
  · have e : Plain.okB n m u d b = false := by rw [Plain.okB, if_neg hz, if_pos (by omega)]
    rw [e]; exact right_3 n m u d b w hz (by omega) (by omega) h3
  by_cases h4 : m < d
  · have e : Plain.okB n m u d b = false := by rw [Plain.okB, if_neg hz, if_pos (by omega)]
    rw [e]; exact right_4 n m u d b w hz (by omega) (by omega) (by omega) h4
  by_cases h5 : 0 < u ∧ 0 < d
  · have e : Plain.okB n m u d b = false := by rw [Plain.okB, if_neg hz, if_pos (by omega)]
    rw [e]; exact right_5 n m u d b w hz h5.1 h5.2 (by omega) (by omega)
  by_cases h6 : 0 < u
  · obtain rfl : d = 0 := by omega
    by_cases h7 : u = n
    · subst h7
      have e : Plain.okB u m u 0 b = b := by rw [Plain.okB, if_neg hz, if_neg (by omega), if_pos rfl]
      rw [e]; exact right_6 u m b w h6 (by omega)
    · cases b
      · have e : Plain.okB n m u 0 false = true := by rw [Plain.okB, if_neg hz, if_neg (by omega), if_neg h7, if_neg (by omega), if_neg (by simp)]
        rw [e]; exact right_7 n m u w h6 (by omega) (by omega)
      · have e : Plain.okB n m u 0 true = decide (1 < m) := by rw [Plain.okB, if_neg hz, if_neg (by omega), if_neg h7, if_neg (by omega), if_pos ⟨h6, rfl⟩]
        rw [e]; exact right_8 n m u w h6 (by omega) (by omega)
  · obtain rfl : u = 0 := by omega
    by_cases h7 : d = m
    · subst h7
      have e : Plain.okB n d 0 d b = !b := by rw [Plain.okB, if_neg hz, if_neg (by omega), if_neg (by omega), if_pos rfl]
      rw [e]; exact right_9 n d b w (by omega) (by omega)
    · have e : Plain.okB n m 0 d b = true := by rw [Plain.okB, if_neg hz, if_neg (by omega), if_neg (by omega), if_neg h7, if_neg (by omega)]
      rw [e]; exact right_10 n m d b w (by omega) (by omega) (by omega)
theorem right_is (n m u d : Int) (b r : Bool) (h : Plain.okB n m u d b = r) (w : World) (hn : 1 ≤ n) (hm : 1 ≤ m) : Calls Try.prog 28 #[.agg #[.int .i64 n, .int .i64 m, .int .i64 u, .int .i64 d, .bool b]] w fun e w' => e = .returned (.bool r) ∧ Below w.heap.size w w' := by
  rw [← h]; exact right_any n m u d b w hn hm

set_option maxHeartbeats 1000000 in
theorem check14_any (n m u d : Int) (b : Bool) (w : World) : Calls Try.prog 14 #[.agg #[.int .i64 n, .int .i64 m, .int .i64 u, .int .i64 d, .bool b]] w fun e w' => e = .returned (.int .i64 (Plain.chk n m u d b)) ∧ Below w.heap.size w w' := by
  by_cases h1 : 1 ≤ n
  · skip
    by_cases h2 : n ≤ 100
    · skip
      by_cases h3 : 1 ≤ m
      · skip
        by_cases h4 : m ≤ 100
        · skip
          cases hr : Plain.okB n m u d b
          · have H := Lib.hid (show Plain.chk n m u d b = 3 by simp [Plain.chk, Plain.needB, h1, h2, h3, h4, hr])
            have HR := Lib.hid hr; clear hr
            go_enter Try.func14, Try.ntmps14
            go_wp2_with (go_at_call 28; refine (right_is n m u d b false HR.out _ h1 h3).mono ?_; rintro e w1 ⟨rfl, hb1⟩)
            go_ret
            exact ⟨by rw [H.out]; rfl, (below1 w _).trans (hb1.mono (by simp))⟩
          · have H := Lib.hid (show Plain.chk n m u d b = 0 by simp [Plain.chk, Plain.needB, h1, h2, h3, h4, hr])
            have HR := Lib.hid hr; clear hr
            go_enter Try.func14, Try.ntmps14
            go_wp2_with (go_at_call 28; refine (right_is n m u d b true HR.out _ h1 h3).mono ?_; rintro e w1 ⟨rfl, hb1⟩)
            go_ret
            exact ⟨by rw [H.out]; rfl, (below1 w _).trans (hb1.mono (by simp))⟩
        · skip
          have H := Lib.hid (show Plain.chk n m u d b = 2 by simp [Plain.chk, Plain.needB, h4])
          go_enter Try.func14, Try.ntmps14
          go_wp2_with fail
          go_ret
          exact ⟨by rw [H.out]; rfl, below1 _ _⟩
      · skip
        have H := Lib.hid (show Plain.chk n m u d b = 2 by simp [Plain.chk, Plain.needB, h3])
        go_enter Try.func14, Try.ntmps14
        go_wp2_with fail
        go_ret
        exact ⟨by rw [H.out]; rfl, below1 _ _⟩
    · skip
      have H := Lib.hid (show Plain.chk n m u d b = 2 by simp [Plain.chk, Plain.needB, h2])
      go_enter Try.func14, Try.ntmps14
      go_wp2_with fail
      go_ret
      exact ⟨by rw [H.out]; rfl, below1 _ _⟩
  · skip
    have H := Lib.hid (show Plain.chk n m u d b = 2 by simp [Plain.chk, Plain.needB, h1])
    go_enter Try.func14, Try.ntmps14
    go_wp2_with fail
    go_ret
    exact ⟨by rw [H.out]; rfl, below1 _ _⟩
theorem check14_is (n m u d : Int) (b : Bool) (r : Int) (h : Plain.chk n m u d b = r) (w : World) : Calls Try.prog 14 #[.agg #[.int .i64 n, .int .i64 m, .int .i64 u, .int .i64 d, .bool b]] w fun e w' => e = .returned (.int .i64 r) ∧ Below w.heap.size w w' := by
  rw [← h]; exact check14_any n m u d b w

end Go.Proofs.Ytffchacanekhgaa
