/-
  WALKS: New of both; Check of the reference.
-/
import Derived.Test.YtffchacanekhgaaChk
namespace Go.Proofs.Ytffchacanekhgaa
open Go.RowKit

/-- five stores into one new block -/
theorem below_set5 {B : Nat} {a w : World} (h : Below B a w) {g : Nat} (hg : B ≤ g) (v0 v1 v2 v3 v4 : Value) :
    Below B a (((((w.setCell ⟨g, 0, none⟩ v0).setCell ⟨g, 1, none⟩ v1).setCell ⟨g, 2, none⟩ v2).setCell ⟨g, 3, none⟩ v3).setCell ⟨g, 4, none⟩ v4) :=
  ((((h.setCell (p := ⟨g, 0, none⟩) hg v0).setCell (p := ⟨g, 1, none⟩) hg v1).setCell (p := ⟨g, 2, none⟩) hg v2).setCell (p := ⟨g, 3, none⟩) hg v3).setCell (p := ⟨g, 4, none⟩) hg v4

set_option maxHeartbeats 1000000 in
theorem new19_any (n m : Int) (w : World) : Calls Try.prog 19 #[.int .i64 n, .int .i64 m] w fun e w' => e = .returned (.tuple #[.agg #[.int .i64 (Plain.newN n m), .int .i64 (Plain.newM n m), .int .i64 0, .int .i64 0, .bool false], .int .i64 (Plain.newE n m)]) ∧ Below w.heap.size w w' := by
  by_cases h1 : 1 ≤ n
  · skip
    by_cases h2 : n ≤ 100
    · skip
      by_cases h3 : 1 ≤ m
      · skip
        by_cases h4 : m ≤ 100
        · skip
          have hb : Plain.needB n m = true := Plain.needB_of n m h1 h2 h3 h4
          have e1 : Plain.newN n m = n := by simp [Plain.newN, hb]
          have e2 : Plain.newM n m = m := by simp [Plain.newM, hb]
          have e3 : Plain.newE n m = 0 := by simp [Plain.newE, hb]
          rw [e1, e2, e3]
          clear e1 e2 e3 hb
          go_enter Try.func19, Try.ntmps19
          go_wp2_with fail
          refine bodyPost_ret (v := .tuple #[.agg #[.int .i64 n, .int .i64 m, .int .i64 0, .int .i64 0, .bool false], .int .i64 0]) (by simp [results, Try.results19, go_sem]) rfl ⟨rfl, ?_⟩
          exact below1 _ _
        · skip
          have hb : Plain.needB n m = false := by simp [Plain.needB, h4]
          have e1 : Plain.newN n m = 0 := by simp [Plain.newN, hb]
          have e2 : Plain.newM n m = 0 := by simp [Plain.newM, hb]
          have e3 : Plain.newE n m = 2 := by simp [Plain.newE, hb]
          rw [e1, e2, e3]
          clear e1 e2 e3 hb
          go_enter Try.func19, Try.ntmps19
          go_wp2_with fail
          refine bodyPost_ret (v := .tuple #[.agg #[.int .i64 0, .int .i64 0, .int .i64 0, .int .i64 0, .bool false], .int .i64 2]) (by simp [results, Try.results19, go_sem]) rfl ⟨rfl, ?_⟩
          exact below1 _ _
      · skip
        have hb : Plain.needB n m = false := by simp [Plain.needB, h3]
        have e1 : Plain.newN n m = 0 := by simp [Plain.newN, hb]
        have e2 : Plain.newM n m = 0 := by simp [Plain.newM, hb]
        have e3 : Plain.newE n m = 2 := by simp [Plain.newE, hb]
        rw [e1, e2, e3]
        clear e1 e2 e3 hb
        go_enter Try.func19, Try.ntmps19
        go_wp2_with fail
        refine bodyPost_ret (v := .tuple #[.agg #[.int .i64 0, .int .i64 0, .int .i64 0, .int .i64 0, .bool false], .int .i64 2]) (by simp [results, Try.results19, go_sem]) rfl ⟨rfl, ?_⟩
        exact below1 _ _
    · skip
      have hb : Plain.needB n m = false := by simp [Plain.needB, h2]
      have e1 : Plain.newN n m = 0 := by simp [Plain.newN, hb]
      have e2 : Plain.newM n m = 0 := by simp [Plain.newM, hb]
      have e3 : Plain.newE n m = 2 := by simp [Plain.newE, hb]
      rw [e1, e2, e3]
      clear e1 e2 e3 hb
      go_enter Try.func19, Try.ntmps19
      go_wp2_with fail
      refine bodyPost_ret (v := .tuple #[.agg #[.int .i64 0, .int .i64 0, .int .i64 0, .int .i64 0, .bool false], .int .i64 2]) (by simp [results, Try.results19, go_sem]) rfl ⟨rfl, ?_⟩
      exact below1 _ _
  · skip
    have hb : Plain.needB n m = false := by simp [Plain.needB, h1]
    have e1 : Plain.newN n m = 0 := by simp [Plain.newN, hb]
    have e2 : Plain.newM n m = 0 := by simp [Plain.newM, hb]
    have e3 : Plain.newE n m = 2 := by simp [Plain.newE, hb]
    rw [e1, e2, e3]
    clear e1 e2 e3 hb
    go_enter Try.func19, Try.ntmps19
    go_wp2_with fail
    refine bodyPost_ret (v := .tuple #[.agg #[.int .i64 0, .int .i64 0, .int .i64 0, .int .i64 0, .bool false], .int .i64 2]) (by simp [results, Try.results19, go_sem]) rfl ⟨rfl, ?_⟩
    exact below1 _ _
theorem new19_is (n m n' m' r : Int) (h1 : Plain.newN n m = n') (h2 : Plain.newM n m = m') (h3 : Plain.newE n m = r) (w : World) : Calls Try.prog 19 #[.int .i64 n, .int .i64 m] w fun e w' => e = .returned (.tuple #[.agg #[.int .i64 n', .int .i64 m', .int .i64 0, .int .i64 0, .bool false], .int .i64 r]) ∧ Below w.heap.size w w' := by
  rw [← h1, ← h2, ← h3]; exact new19_any n m w

set_option maxHeartbeats 1000000 in
theorem new13_any (n m : Int) (w : World) : Calls Try.prog 13 #[.int .i64 n, .int .i64 m] w fun e w' => e = .returned (.tuple #[.agg #[.int .i64 (Plain.newN n m), .int .i64 (Plain.newM n m), .int .i64 0, .int .i64 0, .bool false], .int .i64 (Plain.newE n m)]) ∧ Below w.heap.size w w' := by
  cases hb : Plain.needB n m
  · have e1 : Plain.newN n m = 0 := by simp [Plain.newN, hb]
    have e2 : Plain.newM n m = 0 := by simp [Plain.newM, hb]
    have e3 : Plain.newE n m = 2 := by simp [Plain.newE, hb]
    have hc := check14_is n m 0 0 false 2 (by rw [Plain.chk_new, e3])
    rw [e1, e2, e3]
    clear e1 e2 e3 hb
    have HC := Lib.hid hc; clear hc
    go_enter Try.func13, Try.ntmps13
    go_wp2_with fail
    refine (HC.out _).mono ?_
    rintro e w1 ⟨rfl, hb1⟩
    have hlt : w.heap.size + 1 < w1.heap.size := by have := hb1.size; simp at this; omega
    have hr0 := hb1.cell (p := ⟨w.heap.size, 0, none⟩) (by simp; omega)
    have hr1 := hb1.cell (p := ⟨w.heap.size, 1, none⟩) (by simp; omega)
    have hr2 := hb1.cell (p := ⟨w.heap.size, 2, none⟩) (by simp; omega)
    have hr3 := hb1.cell (p := ⟨w.heap.size, 3, none⟩) (by simp; omega)
    have hr4 := hb1.cell (p := ⟨w.heap.size, 4, none⟩) (by simp; omega)
    have hfr := fun i => hb1.frozen (p := ⟨w.heap.size, i, none⟩) (by simp; omega)
    have hc0 := hb1.cell (p := ⟨w.heap.size + 1, 0, none⟩) (by simp)
    have hc1 := hb1.cell (p := ⟨w.heap.size + 1, 1, none⟩) (by simp)
    have hc2 := hb1.cell (p := ⟨w.heap.size + 1, 2, none⟩) (by simp)
    have hc3 := hb1.cell (p := ⟨w.heap.size + 1, 3, none⟩) (by simp)
    have hc4 := hb1.cell (p := ⟨w.heap.size + 1, 4, none⟩) (by simp)
    have k1 : Below w.heap.size w w1 := (below2 w _ _).trans (hb1.mono (by simp; omega))
    go_wp2_with fail
    refine bodyPost_ret (v := .tuple #[.agg #[.int .i64 0, .int .i64 0, .int .i64 0, .int .i64 0, .bool false], .int .i64 2]) (by simp [results, Try.results13, go_sem, hr0, hr1, hr2, hr3, hr4]) rfl ⟨rfl, ?_⟩
    exact below_set5 k1 (Nat.le_refl _) _ _ _ _ _
  · have e1 : Plain.newN n m = n := by simp [Plain.newN, hb]
    have e2 : Plain.newM n m = m := by simp [Plain.newM, hb]
    have e3 : Plain.newE n m = 0 := by simp [Plain.newE, hb]
    have hc := check14_is n m 0 0 false 0 (by rw [Plain.chk_new, e3])
    rw [e1, e2, e3]
    clear e1 e2 e3 hb
    have HC := Lib.hid hc; clear hc
    go_enter Try.func13, Try.ntmps13
    go_wp2_with fail
    refine (HC.out _).mono ?_
    rintro e w1 ⟨rfl, hb1⟩
    have hlt : w.heap.size + 1 < w1.heap.size := by have := hb1.size; simp at this; omega
    have hr0 := hb1.cell (p := ⟨w.heap.size, 0, none⟩) (by simp; omega)
    have hr1 := hb1.cell (p := ⟨w.heap.size, 1, none⟩) (by simp; omega)
    have hr2 := hb1.cell (p := ⟨w.heap.size, 2, none⟩) (by simp; omega)
    have hr3 := hb1.cell (p := ⟨w.heap.size, 3, none⟩) (by simp; omega)
    have hr4 := hb1.cell (p := ⟨w.heap.size, 4, none⟩) (by simp; omega)
    have hfr := fun i => hb1.frozen (p := ⟨w.heap.size, i, none⟩) (by simp; omega)
    have hc0 := hb1.cell (p := ⟨w.heap.size + 1, 0, none⟩) (by simp)
    have hc1 := hb1.cell (p := ⟨w.heap.size + 1, 1, none⟩) (by simp)
    have hc2 := hb1.cell (p := ⟨w.heap.size + 1, 2, none⟩) (by simp)
    have hc3 := hb1.cell (p := ⟨w.heap.size + 1, 3, none⟩) (by simp)
    have hc4 := hb1.cell (p := ⟨w.heap.size + 1, 4, none⟩) (by simp)
    have k1 : Below w.heap.size w w1 := (below2 w _ _).trans (hb1.mono (by simp; omega))
    go_wp2_with fail
    refine bodyPost_ret (v := .tuple #[.agg #[.int .i64 n, .int .i64 m, .int .i64 0, .int .i64 0, .bool false], .int .i64 0]) (by simp [results, Try.results13, go_sem, hr0, hr1, hr2, hr3, hr4]) rfl ⟨rfl, ?_⟩
    exact below_set5 k1 (Nat.le_refl _) _ _ _ _ _

theorem rcheck_zt (n m : Int) (w : World) (k1 : 1 ≤ n) (k2 : n ≤ 100) (k3 : 1 ≤ m) (k4 : m ≤ 100)  : Calls Try.prog 21 #[.agg #[.int .i64 n, .int .i64 m, .int .i64 0, .int .i64 0, .bool true]] w fun e w' => e = .returned (.int .i64 3) ∧ Below w.heap.size w w' := by
  have hb : Plain.needB n m = true := Plain.needB_of n m k1 k2 k3 k4
  have HN := Lib.hid (new19_is n m n m 0 (by simp [Plain.newN, hb]) (by simp [Plain.newM, hb]) (by simp [Plain.newE, hb]))
  clear hb
  go_enter Try.func21, Try.ntmps21
  go_wp2_with fail
  refine (HN.out _).mono ?_
  rintro e w1 ⟨rfl, hb1⟩
  have hlt : w.heap.size < w1.heap.size := by have := hb1.size; simp at this; omega
  have hc0 := hb1.cell (p := ⟨w.heap.size, 0, none⟩) (by simp)
  have hc1 := hb1.cell (p := ⟨w.heap.size, 1, none⟩) (by simp)
  have hc2 := hb1.cell (p := ⟨w.heap.size, 2, none⟩) (by simp)
  have hc3 := hb1.cell (p := ⟨w.heap.size, 3, none⟩) (by simp)
  have hc4 := hb1.cell (p := ⟨w.heap.size, 4, none⟩) (by simp)
  have kb : Below w.heap.size w w1 := (below1 w _).trans (hb1.mono (by simp))
  go_wp2_with fail
  go_ret
  exact ⟨rfl, kb.alloc kb.size _⟩

theorem rcheck_zf (n m : Int) (w : World) (k1 : 1 ≤ n) (k2 : n ≤ 100) (k3 : 1 ≤ m) (k4 : m ≤ 100)  : Calls Try.prog 21 #[.agg #[.int .i64 n, .int .i64 m, .int .i64 0, .int .i64 0, .bool false]] w fun e w' => e = .returned (.int .i64 0) ∧ Below w.heap.size w w' := by
  have hb : Plain.needB n m = true := Plain.needB_of n m k1 k2 k3 k4
  have HN := Lib.hid (new19_is n m n m 0 (by simp [Plain.newN, hb]) (by simp [Plain.newM, hb]) (by simp [Plain.newE, hb]))
  clear hb
  go_enter Try.func21, Try.ntmps21
  go_wp2_with fail
  refine (HN.out _).mono ?_
  rintro e w1 ⟨rfl, hb1⟩
  have hlt : w.heap.size < w1.heap.size := by have := hb1.size; simp at this; omega
  have hc0 := hb1.cell (p := ⟨w.heap.size, 0, none⟩) (by simp)
  have hc1 := hb1.cell (p := ⟨w.heap.size, 1, none⟩) (by simp)
  have hc2 := hb1.cell (p := ⟨w.heap.size, 2, none⟩) (by simp)
  have hc3 := hb1.cell (p := ⟨w.heap.size, 3, none⟩) (by simp)
  have hc4 := hb1.cell (p := ⟨w.heap.size, 4, none⟩) (by simp)
  have kb : Below w.heap.size w w1 := (below1 w _).trans (hb1.mono (by simp))
  go_wp2_with fail
  go_ret
  exact ⟨rfl, kb.alloc kb.size _⟩

theorem rcheck_uf (n m u : Int) (w : World) (k1 : 1 ≤ n) (k2 : n ≤ 100) (k3 : 1 ≤ m) (k4 : m ≤ 100) (h1 : 0 < u) (h2 : u < n) : Calls Try.prog 21 #[.agg #[.int .i64 n, .int .i64 m, .int .i64 u, .int .i64 0, .bool false]] w fun e w' => e = .returned (.int .i64 0) ∧ Below w.heap.size w w' := by
  have hb : Plain.needB n m = true := Plain.needB_of n m k1 k2 k3 k4
  have HN := Lib.hid (new19_is n m n m 0 (by simp [Plain.newN, hb]) (by simp [Plain.newM, hb]) (by simp [Plain.newE, hb]))
  clear hb
  go_enter Try.func21, Try.ntmps21
  go_wp2_with fail
  refine (HN.out _).mono ?_
  rintro e w1 ⟨rfl, hb1⟩
  have hlt : w.heap.size < w1.heap.size := by have := hb1.size; simp at this; omega
  have hc0 := hb1.cell (p := ⟨w.heap.size, 0, none⟩) (by simp)
  have hc1 := hb1.cell (p := ⟨w.heap.size, 1, none⟩) (by simp)
  have hc2 := hb1.cell (p := ⟨w.heap.size, 2, none⟩) (by simp)
  have hc3 := hb1.cell (p := ⟨w.heap.size, 3, none⟩) (by simp)
  have hc4 := hb1.cell (p := ⟨w.heap.size, 4, none⟩) (by simp)
  have kb : Below w.heap.size w w1 := (below1 w _).trans (hb1.mono (by simp))
  go_wp2_with fail
  go_ret
  exact ⟨rfl, kb.alloc kb.size _⟩

theorem rcheck_ut1 (n m u : Int) (w : World) (k1 : 1 ≤ n) (k2 : n ≤ 100) (k3 : 1 ≤ m) (k4 : m ≤ 100) (h1 : 0 < u) (h2 : u < n) (h3 : 1 < m) : Calls Try.prog 21 #[.agg #[.int .i64 n, .int .i64 m, .int .i64 u, .int .i64 0, .bool true]] w fun e w' => e = .returned (.int .i64 0) ∧ Below w.heap.size w w' := by
  have hb : Plain.needB n m = true := Plain.needB_of n m k1 k2 k3 k4
  have HN := Lib.hid (new19_is n m n m 0 (by simp [Plain.newN, hb]) (by simp [Plain.newM, hb]) (by simp [Plain.newE, hb]))
  clear hb
  go_enter Try.func21, Try.ntmps21
  go_wp2_with fail
  refine (HN.out _).mono ?_
  rintro e w1 ⟨rfl, hb1⟩
  have hlt : w.heap.size < w1.heap.size := by have := hb1.size; simp at this; omega
  have hc0 := hb1.cell (p := ⟨w.heap.size, 0, none⟩) (by simp)
  have hc1 := hb1.cell (p := ⟨w.heap.size, 1, none⟩) (by simp)
  have hc2 := hb1.cell (p := ⟨w.heap.size, 2, none⟩) (by simp)
  have hc3 := hb1.cell (p := ⟨w.heap.size, 3, none⟩) (by simp)
  have hc4 := hb1.cell (p := ⟨w.heap.size, 4, none⟩) (by simp)
  have kb : Below w.heap.size w w1 := (below1 w _).trans (hb1.mono (by simp))
  go_wp2_with fail
  go_ret
  exact ⟨rfl, kb.alloc kb.size _⟩

theorem rcheck_ut0 (n u : Int) (w : World) (k1 : 1 ≤ n) (k2 : n ≤ 100) (h1 : 0 < u) (h2 : u < n) : Calls Try.prog 21 #[.agg #[.int .i64 n, .int .i64 1, .int .i64 u, .int .i64 0, .bool true]] w fun e w' => e = .returned (.int .i64 3) ∧ Below w.heap.size w w' := by
  have hb : Plain.needB n 1 = true := Plain.needB_of n 1 k1 k2 (by omega) (by omega)
  have HN := Lib.hid (new19_is n 1 n 1 0 (by simp [Plain.newN, hb]) (by simp [Plain.newM, hb]) (by simp [Plain.newE, hb]))
  clear hb
  go_enter Try.func21, Try.ntmps21
  go_wp2_with fail
  refine (HN.out _).mono ?_
  rintro e w1 ⟨rfl, hb1⟩
  have hlt : w.heap.size < w1.heap.size := by have := hb1.size; simp at this; omega
  have hc0 := hb1.cell (p := ⟨w.heap.size, 0, none⟩) (by simp)
  have hc1 := hb1.cell (p := ⟨w.heap.size, 1, none⟩) (by simp)
  have hc2 := hb1.cell (p := ⟨w.heap.size, 2, none⟩) (by simp)
  have hc3 := hb1.cell (p := ⟨w.heap.size, 3, none⟩) (by simp)
  have hc4 := hb1.cell (p := ⟨w.heap.size, 4, none⟩) (by simp)
  have kb : Below w.heap.size w w1 := (below1 w _).trans (hb1.mono (by simp))
  go_wp2_with fail
  go_ret
  exact ⟨rfl, kb.alloc kb.size _⟩

theorem rcheck_nt (n m : Int) (w : World) (k1 : 1 ≤ n) (k2 : n ≤ 100) (k3 : 1 ≤ m) (k4 : m ≤ 100)  : Calls Try.prog 21 #[.agg #[.int .i64 n, .int .i64 m, .int .i64 n, .int .i64 0, .bool true]] w fun e w' => e = .returned (.int .i64 0) ∧ Below w.heap.size w w' := by
  have hb : Plain.needB n m = true := Plain.needB_of n m k1 k2 k3 k4
  have HN := Lib.hid (new19_is n m n m 0 (by simp [Plain.newN, hb]) (by simp [Plain.newM, hb]) (by simp [Plain.newE, hb]))
  clear hb
  go_enter Try.func21, Try.ntmps21
  go_wp2_with fail
  refine (HN.out _).mono ?_
  rintro e w1 ⟨rfl, hb1⟩
  have hlt : w.heap.size < w1.heap.size := by have := hb1.size; simp at this; omega
  have hc0 := hb1.cell (p := ⟨w.heap.size, 0, none⟩) (by simp)
  have hc1 := hb1.cell (p := ⟨w.heap.size, 1, none⟩) (by simp)
  have hc2 := hb1.cell (p := ⟨w.heap.size, 2, none⟩) (by simp)
  have hc3 := hb1.cell (p := ⟨w.heap.size, 3, none⟩) (by simp)
  have hc4 := hb1.cell (p := ⟨w.heap.size, 4, none⟩) (by simp)
  have kb : Below w.heap.size w w1 := (below1 w _).trans (hb1.mono (by simp))
  go_wp2_with fail
  go_ret
  exact ⟨rfl, kb.alloc kb.size _⟩

theorem rcheck_nf (n m : Int) (w : World) (k1 : 1 ≤ n) (k2 : n ≤ 100) (k3 : 1 ≤ m) (k4 : m ≤ 100)  : Calls Try.prog 21 #[.agg #[.int .i64 n, .int .i64 m, .int .i64 n, .int .i64 0, .bool false]] w fun e w' => e = .returned (.int .i64 3) ∧ Below w.heap.size w w' := by
  have hb : Plain.needB n m = true := Plain.needB_of n m k1 k2 k3 k4
  have HN := Lib.hid (new19_is n m n m 0 (by simp [Plain.newN, hb]) (by simp [Plain.newM, hb]) (by simp [Plain.newE, hb]))
  clear hb
  go_enter Try.func21, Try.ntmps21
  go_wp2_with fail
  refine (HN.out _).mono ?_
  rintro e w1 ⟨rfl, hb1⟩
  have hlt : w.heap.size < w1.heap.size := by have := hb1.size; simp at this; omega
  have hc0 := hb1.cell (p := ⟨w.heap.size, 0, none⟩) (by simp)
  have hc1 := hb1.cell (p := ⟨w.heap.size, 1, none⟩) (by simp)
  have hc2 := hb1.cell (p := ⟨w.heap.size, 2, none⟩) (by simp)
  have hc3 := hb1.cell (p := ⟨w.heap.size, 3, none⟩) (by simp)
  have hc4 := hb1.cell (p := ⟨w.heap.size, 4, none⟩) (by simp)
  have kb : Below w.heap.size w w1 := (below1 w _).trans (hb1.mono (by simp))
  go_wp2_with fail
  go_ret
  exact ⟨rfl, kb.alloc kb.size _⟩

theorem rcheck_d (n m d : Int) (b : Bool) (w : World) (k1 : 1 ≤ n) (k2 : n ≤ 100) (k3 : 1 ≤ m) (k4 : m ≤ 100) (h1 : 0 < d) (h2 : d < m) : Calls Try.prog 21 #[.agg #[.int .i64 n, .int .i64 m, .int .i64 0, .int .i64 d, .bool b]] w fun e w' => e = .returned (.int .i64 0) ∧ Below w.heap.size w w' := by
  have hb : Plain.needB n m = true := Plain.needB_of n m k1 k2 k3 k4
  have HN := Lib.hid (new19_is n m n m 0 (by simp [Plain.newN, hb]) (by simp [Plain.newM, hb]) (by simp [Plain.newE, hb]))
  clear hb
  go_enter Try.func21, Try.ntmps21
  go_wp2_with fail
  refine (HN.out _).mono ?_
  rintro e w1 ⟨rfl, hb1⟩
  have hlt : w.heap.size < w1.heap.size := by have := hb1.size; simp at this; omega
  have hc0 := hb1.cell (p := ⟨w.heap.size, 0, none⟩) (by simp)
  have hc1 := hb1.cell (p := ⟨w.heap.size, 1, none⟩) (by simp)
  have hc2 := hb1.cell (p := ⟨w.heap.size, 2, none⟩) (by simp)
  have hc3 := hb1.cell (p := ⟨w.heap.size, 3, none⟩) (by simp)
  have hc4 := hb1.cell (p := ⟨w.heap.size, 4, none⟩) (by simp)
  have kb : Below w.heap.size w w1 := (below1 w _).trans (hb1.mono (by simp))
  go_wp2_with fail
  go_ret
  exact ⟨rfl, kb.alloc kb.size _⟩

theorem rcheck_mt (n m : Int) (w : World) (k1 : 1 ≤ n) (k2 : n ≤ 100) (k3 : 1 ≤ m) (k4 : m ≤ 100)  : Calls Try.prog 21 #[.agg #[.int .i64 n, .int .i64 m, .int .i64 0, .int .i64 m, .bool true]] w fun e w' => e = .returned (.int .i64 3) ∧ Below w.heap.size w w' := by
  have hb : Plain.needB n m = true := Plain.needB_of n m k1 k2 k3 k4
  have HN := Lib.hid (new19_is n m n m 0 (by simp [Plain.newN, hb]) (by simp [Plain.newM, hb]) (by simp [Plain.newE, hb]))
  clear hb
  go_enter Try.func21, Try.ntmps21
  go_wp2_with fail
  refine (HN.out _).mono ?_
  rintro e w1 ⟨rfl, hb1⟩
  have hlt : w.heap.size < w1.heap.size := by have := hb1.size; simp at this; omega
  have hc0 := hb1.cell (p := ⟨w.heap.size, 0, none⟩) (by simp)
  have hc1 := hb1.cell (p := ⟨w.heap.size, 1, none⟩) (by simp)
  have hc2 := hb1.cell (p := ⟨w.heap.size, 2, none⟩) (by simp)
  have hc3 := hb1.cell (p := ⟨w.heap.size, 3, none⟩) (by simp)
  have hc4 := hb1.cell (p := ⟨w.heap.size, 4, none⟩) (by simp)
  have kb : Below w.heap.size w w1 := (below1 w _).trans (hb1.mono (by simp))
  go_wp2_with fail
  go_ret
  exact ⟨rfl, kb.alloc kb.size _⟩

theorem rcheck_mf (n m : Int) (w : World) (k1 : 1 ≤ n) (k2 : n ≤ 100) (k3 : 1 ≤ m) (k4 : m ≤ 100)  : Calls Try.prog 21 #[.agg #[.int .i64 n, .int .i64 m, .int .i64 0, .int .i64 m, .bool false]] w fun e w' => e = .returned (.int .i64 0) ∧ Below w.heap.size w w' := by
  have hb : Plain.needB n m = true := Plain.needB_of n m k1 k2 k3 k4
  have HN := Lib.hid (new19_is n m n m 0 (by simp [Plain.newN, hb]) (by simp [Plain.newM, hb]) (by simp [Plain.newE, hb]))
  clear hb
  go_enter Try.func21, Try.ntmps21
  go_wp2_with fail
  refine (HN.out _).mono ?_
  rintro e w1 ⟨rfl, hb1⟩
  have hlt : w.heap.size < w1.heap.size := by have := hb1.size; simp at this; omega
  have hc0 := hb1.cell (p := ⟨w.heap.size, 0, none⟩) (by simp)
  have hc1 := hb1.cell (p := ⟨w.heap.size, 1, none⟩) (by simp)
  have hc2 := hb1.cell (p := ⟨w.heap.size, 2, none⟩) (by simp)
  have hc3 := hb1.cell (p := ⟨w.heap.size, 3, none⟩) (by simp)
  have hc4 := hb1.cell (p := ⟨w.heap.size, 4, none⟩) (by simp)
  have kb : Below w.heap.size w w1 := (below1 w _).trans (hb1.mono (by simp))
  go_wp2_with fail
  go_ret
  exact ⟨rfl, kb.alloc kb.size _⟩

theorem rcheck_xa (n m u : Int) (b : Bool) (w : World) (k1 : 1 ≤ n) (k2 : n ≤ 100) (k3 : 1 ≤ m) (k4 : m ≤ 100) (h1 : u < 0) : Calls Try.prog 21 #[.agg #[.int .i64 n, .int .i64 m, .int .i64 u, .int .i64 0, .bool b]] w fun e w' => e = .returned (.int .i64 3) ∧ Below w.heap.size w w' := by
  have hb : Plain.needB n m = true := Plain.needB_of n m k1 k2 k3 k4
  have HN := Lib.hid (new19_is n m n m 0 (by simp [Plain.newN, hb]) (by simp [Plain.newM, hb]) (by simp [Plain.newE, hb]))
  clear hb
  go_enter Try.func21, Try.ntmps21
  go_wp2_with fail
  refine (HN.out _).mono ?_
  rintro e w1 ⟨rfl, hb1⟩
  have hlt : w.heap.size < w1.heap.size := by have := hb1.size; simp at this; omega
  have hc0 := hb1.cell (p := ⟨w.heap.size, 0, none⟩) (by simp)
  have hc1 := hb1.cell (p := ⟨w.heap.size, 1, none⟩) (by simp)
  have hc2 := hb1.cell (p := ⟨w.heap.size, 2, none⟩) (by simp)
  have hc3 := hb1.cell (p := ⟨w.heap.size, 3, none⟩) (by simp)
  have hc4 := hb1.cell (p := ⟨w.heap.size, 4, none⟩) (by simp)
  have kb : Below w.heap.size w w1 := (below1 w _).trans (hb1.mono (by simp))
  go_wp2_with fail
  go_ret
  exact ⟨rfl, kb.alloc kb.size _⟩

theorem rcheck_xb (n m u : Int) (b : Bool) (w : World) (k1 : 1 ≤ n) (k2 : n ≤ 100) (k3 : 1 ≤ m) (k4 : m ≤ 100) (h1 : n < u) : Calls Try.prog 21 #[.agg #[.int .i64 n, .int .i64 m, .int .i64 u, .int .i64 0, .bool b]] w fun e w' => e = .returned (.int .i64 3) ∧ Below w.heap.size w w' := by
  have hb : Plain.needB n m = true := Plain.needB_of n m k1 k2 k3 k4
  have HN := Lib.hid (new19_is n m n m 0 (by simp [Plain.newN, hb]) (by simp [Plain.newM, hb]) (by simp [Plain.newE, hb]))
  clear hb
  go_enter Try.func21, Try.ntmps21
  go_wp2_with fail
  refine (HN.out _).mono ?_
  rintro e w1 ⟨rfl, hb1⟩
  have hlt : w.heap.size < w1.heap.size := by have := hb1.size; simp at this; omega
  have hc0 := hb1.cell (p := ⟨w.heap.size, 0, none⟩) (by simp)
  have hc1 := hb1.cell (p := ⟨w.heap.size, 1, none⟩) (by simp)
  have hc2 := hb1.cell (p := ⟨w.heap.size, 2, none⟩) (by simp)
  have hc3 := hb1.cell (p := ⟨w.heap.size, 3, none⟩) (by simp)
  have hc4 := hb1.cell (p := ⟨w.heap.size, 4, none⟩) (by simp)
  have kb : Below w.heap.size w w1 := (below1 w _).trans (hb1.mono (by simp))
  go_wp2_with fail
  go_ret
  exact ⟨rfl, kb.alloc kb.size _⟩

theorem rcheck_xc (n m d : Int) (b : Bool) (w : World) (k1 : 1 ≤ n) (k2 : n ≤ 100) (k3 : 1 ≤ m) (k4 : m ≤ 100) (h1 : d < 0) : Calls Try.prog 21 #[.agg #[.int .i64 n, .int .i64 m, .int .i64 0, .int .i64 d, .bool b]] w fun e w' => e = .returned (.int .i64 3) ∧ Below w.heap.size w w' := by
  have hb : Plain.needB n m = true := Plain.needB_of n m k1 k2 k3 k4
  have HN := Lib.hid (new19_is n m n m 0 (by simp [Plain.newN, hb]) (by simp [Plain.newM, hb]) (by simp [Plain.newE, hb]))
  clear hb
  go_enter Try.func21, Try.ntmps21
  go_wp2_with fail
  refine (HN.out _).mono ?_
  rintro e w1 ⟨rfl, hb1⟩
  have hlt : w.heap.size < w1.heap.size := by have := hb1.size; simp at this; omega
  have hc0 := hb1.cell (p := ⟨w.heap.size, 0, none⟩) (by simp)
  have hc1 := hb1.cell (p := ⟨w.heap.size, 1, none⟩) (by simp)
  have hc2 := hb1.cell (p := ⟨w.heap.size, 2, none⟩) (by simp)
  have hc3 := hb1.cell (p := ⟨w.heap.size, 3, none⟩) (by simp)
  have hc4 := hb1.cell (p := ⟨w.heap.size, 4, none⟩) (by simp)
  have kb : Below w.heap.size w w1 := (below1 w _).trans (hb1.mono (by simp))
  go_wp2_with fail
  go_ret
  exact ⟨rfl, kb.alloc kb.size _⟩

theorem rcheck_xd (n m d : Int) (b : Bool) (w : World) (k1 : 1 ≤ n) (k2 : n ≤ 100) (k3 : 1 ≤ m) (k4 : m ≤ 100) (h1 : m < d) : Calls Try.prog 21 #[.agg #[.int .i64 n, .int .i64 m, .int .i64 0, .int .i64 d, .bool b]] w fun e w' => e = .returned (.int .i64 3) ∧ Below w.heap.size w w' := by
  have hb : Plain.needB n m = true := Plain.needB_of n m k1 k2 k3 k4
  have HN := Lib.hid (new19_is n m n m 0 (by simp [Plain.newN, hb]) (by simp [Plain.newM, hb]) (by simp [Plain.newE, hb]))
  clear hb
  go_enter Try.func21, Try.ntmps21
  go_wp2_with fail
  refine (HN.out _).mono ?_
  rintro e w1 ⟨rfl, hb1⟩
  have hlt : w.heap.size < w1.heap.size := by have := hb1.size; simp at this; omega
  have hc0 := hb1.cell (p := ⟨w.heap.size, 0, none⟩) (by simp)
  have hc1 := hb1.cell (p := ⟨w.heap.size, 1, none⟩) (by simp)
  have hc2 := hb1.cell (p := ⟨w.heap.size, 2, none⟩) (by simp)
  have hc3 := hb1.cell (p := ⟨w.heap.size, 3, none⟩) (by simp)
  have hc4 := hb1.cell (p := ⟨w.heap.size, 4, none⟩) (by simp)
  have kb : Below w.heap.size w w1 := (below1 w _).trans (hb1.mono (by simp))
  go_wp2_with fail
  go_ret
  exact ⟨rfl, kb.alloc kb.size _⟩

theorem rcheck_xe (n m u d : Int) (b : Bool) (w : World) (k1 : 1 ≤ n) (k2 : n ≤ 100) (k3 : 1 ≤ m) (k4 : m ≤ 100) (h1 : ¬ u = 0) (h2 : ¬ d = 0) : Calls Try.prog 21 #[.agg #[.int .i64 n, .int .i64 m, .int .i64 u, .int .i64 d, .bool b]] w fun e w' => e = .returned (.int .i64 3) ∧ Below w.heap.size w w' := by
  have hb : Plain.needB n m = true := Plain.needB_of n m k1 k2 k3 k4
  have HN := Lib.hid (new19_is n m n m 0 (by simp [Plain.newN, hb]) (by simp [Plain.newM, hb]) (by simp [Plain.newE, hb]))
  clear hb
  go_enter Try.func21, Try.ntmps21
  go_wp2_with fail
  refine (HN.out _).mono ?_
  rintro e w1 ⟨rfl, hb1⟩
  have hlt : w.heap.size < w1.heap.size := by have := hb1.size; simp at this; omega
  have hc0 := hb1.cell (p := ⟨w.heap.size, 0, none⟩) (by simp)
  have hc1 := hb1.cell (p := ⟨w.heap.size, 1, none⟩) (by simp)
  have hc2 := hb1.cell (p := ⟨w.heap.size, 2, none⟩) (by simp)
  have hc3 := hb1.cell (p := ⟨w.heap.size, 3, none⟩) (by simp)
  have hc4 := hb1.cell (p := ⟨w.heap.size, 4, none⟩) (by simp)
  have kb : Below w.heap.size w w1 := (below1 w _).trans (hb1.mono (by simp))
  go_wp2_with fail
  go_ret
  exact ⟨rfl, kb.alloc kb.size _⟩

theorem rcheck_no (n m u d : Int) (b : Bool) (w : World) (hb : Plain.needB n m = false) : Calls Try.prog 21 #[.agg #[.int .i64 n, .int .i64 m, .int .i64 u, .int .i64 d, .bool b]] w fun e w' => e = .returned (.int .i64 2) ∧ Below w.heap.size w w' := by
  have HN := Lib.hid (new19_is n m 0 0 2 (by simp [Plain.newN, hb]) (by simp [Plain.newM, hb]) (by simp [Plain.newE, hb]))
  clear hb
  go_enter Try.func21, Try.ntmps21
  go_wp2_with fail
  refine (HN.out _).mono ?_
  rintro e w1 ⟨rfl, hb1⟩
  have hlt : w.heap.size < w1.heap.size := by have := hb1.size; simp at this; omega
  have kb : Below w.heap.size w w1 := (below1 w _).trans (hb1.mono (by simp))
  go_wp2_with fail
  go_ret
  exact ⟨rfl, kb.alloc kb.size _⟩
theorem check21_any (n m u d : Int) (b : Bool) (w : World) : Calls Try.prog 21 #[.agg #[.int .i64 n, .int .i64 m, .int .i64 u, .int .i64 d, .bool b]] w fun e w' => e = .returned (.int .i64 (Plain.chk n m u d b)) ∧ Below w.heap.size w w' := by
  cases hb : Plain.needB n m
  · have e : Plain.chk n m u d b = 2 := by simp [Plain.chk, hb]
    rw [e]; exact rcheck_no n m u d b w hb
  · obtain ⟨k1, k2, k3, k4⟩ := Plain.of_needB n m hb
    have e0 : Plain.chk n m u d b = if Plain.okB n m u d b then 0 else 3 := by simp [Plain.chk, hb]
    rw [e0]
    clear e0 hb
    by_cases hd : d = 0
    · subst hd
      by_cases hu : u = 0
      · subst hu
        have e : Plain.okB n m 0 0 b = !b := by simp [Plain.okB]
        rw [e]
        cases b
        · exact rcheck_zf n m w k1 k2 k3 k4
        · exact rcheck_zt n m w k1 k2 k3 k4
      have hz : ¬ (u = 0 ∧ (0 : Int) = 0) := by omega
      by_cases h1 : u < 0
      · have e : Plain.okB n m u 0 b = false := by rw [Plain.okB, if_neg hz, if_pos (by omega)]
        rw [e]; exact rcheck_xa n m u b w k1 k2 k3 k4 h1
      by_cases h2 : n < u
      · have e : Plain.okB n m u 0 b = false := by rw [Plain.okB, if_neg hz, if_pos (by omega)]
        rw [e]; exact rcheck_xb n m u b w k1 k2 k3 k4 h2
      by_cases h3 : u = n
      · subst h3
        have e : Plain.okB u m u 0 b = b := by rw [Plain.okB, if_neg hz, if_neg (by omega), if_pos rfl]
        rw [e]
        cases b
        · exact rcheck_nf u m w k1 k2 k3 k4
        · exact rcheck_nt u m w k1 k2 k3 k4
      · cases b
        · have e : Plain.okB n m u 0 false = true := by rw [Plain.okB, if_neg hz, if_neg (by omega), if_neg h3, if_neg (by omega), if_neg (by simp)]
          rw [e]; exact rcheck_uf n m u w k1 k2 k3 k4 (by omega) (by omega)
        · have e : Plain.okB n m u 0 true = decide (1 < m) := by rw [Plain.okB, if_neg hz, if_neg (by omega), if_neg h3, if_neg (by omega), if_pos ⟨by omega, rfl⟩]
          rw [e]
          by_cases h4 : 1 < m
          · rw [decide_eq_true h4]; exact rcheck_ut1 n m u w k1 k2 k3 k4 (by omega) (by omega) h4
          · obtain rfl : m = 1 := by omega
            exact rcheck_ut0 n u w k1 k2 (by omega) (by omega)
    · have hz : ¬ (u = 0 ∧ d = 0) := by omega
      by_cases hu : u = 0
      · subst hu
        by_cases h1 : d < 0
        · have e : Plain.okB n m 0 d b = false := by rw [Plain.okB, if_neg hz, if_pos (by omega)]
          rw [e]; exact rcheck_xc n m d b w k1 k2 k3 k4 h1
        by_cases h2 : m < d
        · have e : Plain.okB n m 0 d b = false := by rw [Plain.okB, if_neg hz, if_pos (by omega)]
          rw [e]; exact rcheck_xd n m d b w k1 k2 k3 k4 h2
        by_cases h3 : d = m
        · subst h3
          have e : Plain.okB n d 0 d b = !b := by rw [Plain.okB, if_neg hz, if_neg (by omega), if_neg (by omega), if_pos rfl]
          rw [e]
          cases b
          · exact rcheck_mf n d w k1 k2 k3 k4
          · exact rcheck_mt n d w k1 k2 k3 k4
        · have e : Plain.okB n m 0 d b = true := by rw [Plain.okB, if_neg hz, if_neg (by omega), if_neg (by omega), if_neg h3, if_neg (by omega)]
          rw [e]; exact rcheck_d n m d b w k1 k2 k3 k4 (by omega) (by omega)
      · have e : Plain.okB n m u d b = false := by rw [Plain.okB, if_neg hz, if_pos (by omega)]
        rw [e]; exact rcheck_xe n m u d b w k1 k2 k3 k4 hu hd
theorem check21_is (n m u d : Int) (b : Bool) (r : Int) (h : Plain.chk n m u d b = r) (w : World) : Calls Try.prog 21 #[.agg #[.int .i64 n, .int .i64 m, .int .i64 u, .int .i64 d, .bool b]] w fun e w' => e = .returned (.int .i64 r) ∧ Below w.heap.size w w' := by
  rw [← h]; exact check21_any n m u d b w

end Go.Proofs.Ytffchacanekhgaa
