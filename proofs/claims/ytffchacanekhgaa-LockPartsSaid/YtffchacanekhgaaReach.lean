/-
  WALKS: Reach of both; pick; down.
-/
import Derived.Test.YtffchacanekhgaaSame
import Derived.Test.YtffchacanekhgaaPlainD
namespace Go.Proofs.Ytffchacanekhgaa
open Go.RowKit

theorem reach15_no (n m u d : Int) (b : Bool) (over : Int) (w : World) (r : Int) (hv : Plain.chk n m u d b = r) (hne2 : (r != 0) = true) : Calls Try.prog 15 #[.agg #[.int .i64 n, .int .i64 m, .int .i64 u, .int .i64 d, .bool b], .int .i64 over] w fun e w' => e = .returned (.tuple #[.int .i64 0, .int .i64 r]) ∧ Below w.heap.size w w' := by
  have HC := Lib.hid (check14_is n m u d b r hv); clear hv
  go_enter Try.func15, Try.ntmps15
  go_wp2_with fail
  refine (HC.out _).mono ?_
  rintro e w1 ⟨rfl, hb1⟩
  have hc1 := hb1.cell (p := ⟨w.heap.size, 1, none⟩) (by simp)
  have kB : Below w.heap.size w w1 := (below1 w _).trans (hb1.mono (by simp))
  go_wp2_with fail
  go_ret2
  exact ⟨rfl, kB⟩

theorem reach15_lo (n m u d : Int) (b : Bool) (over : Int) (w : World) (hv : Plain.chk n m u d b = 0) (ho : over < 1) : Calls Try.prog 15 #[.agg #[.int .i64 n, .int .i64 m, .int .i64 u, .int .i64 d, .bool b], .int .i64 over] w fun e w' => e = .returned (.tuple #[.int .i64 0, .int .i64 2]) ∧ Below w.heap.size w w' := by
  have HC := Lib.hid (check14_is n m u d b 0 hv); clear hv
  go_enter Try.func15, Try.ntmps15
  go_wp2_with fail
  refine (HC.out _).mono ?_
  rintro e w1 ⟨rfl, hb1⟩
  have hc1 := hb1.cell (p := ⟨w.heap.size, 1, none⟩) (by simp)
  have kB : Below w.heap.size w w1 := (below1 w _).trans (hb1.mono (by simp))
  go_wp2_with fail
  go_ret2
  exact ⟨rfl, kB⟩

theorem reach15_hi (n m u d : Int) (b : Bool) (over : Int) (w : World) (hv : Plain.chk n m u d b = 0) (ho : 8 < over) : Calls Try.prog 15 #[.agg #[.int .i64 n, .int .i64 m, .int .i64 u, .int .i64 d, .bool b], .int .i64 over] w fun e w' => e = .returned (.tuple #[.int .i64 0, .int .i64 2]) ∧ Below w.heap.size w w' := by
  have HC := Lib.hid (check14_is n m u d b 0 hv); clear hv
  go_enter Try.func15, Try.ntmps15
  go_wp2_with fail
  refine (HC.out _).mono ?_
  rintro e w1 ⟨rfl, hb1⟩
  have hc1 := hb1.cell (p := ⟨w.heap.size, 1, none⟩) (by simp)
  have kB : Below w.heap.size w w1 := (below1 w _).trans (hb1.mono (by simp))
  go_wp2_with fail
  go_ret2
  exact ⟨rfl, kB⟩

theorem reach15_ok (n m u d : Int) (b : Bool) (over : Int) (w : World) (hv : Plain.chk n m u d b = 0) (h1 : 1 ≤ over) (h2 : over ≤ 8) : Calls Try.prog 15 #[.agg #[.int .i64 n, .int .i64 m, .int .i64 u, .int .i64 d, .bool b], .int .i64 over] w fun e w' => e = .returned (.tuple #[.int .i64 (over - 1 + (m - 1) + ((m - 1) * 64 + 1023) / 1024 + 1), .int .i64 0]) ∧ Below w.heap.size w w' := by
  obtain ⟨_, _, hm, hm2, _⟩ := Plain.chk_bd n m u d b hv
  have HC := Lib.hid (check14_is n m u d b 0 hv); clear hv
  go_enter Try.func15, Try.ntmps15
  go_wp2_with fail
  refine (HC.out _).mono ?_
  rintro e w1 ⟨rfl, hb1⟩
  have hc1 := hb1.cell (p := ⟨w.heap.size, 1, none⟩) (by simp)
  have kB : Below w.heap.size w w1 := (below1 w _).trans (hb1.mono (by simp))
  go_wp2_with fail
  go_ret2
  exact ⟨rfl, kB⟩

theorem reach15_any (n m u d : Int) (b : Bool) (over : Int) (w : World) : Calls Try.prog 15 #[.agg #[.int .i64 n, .int .i64 m, .int .i64 u, .int .i64 d, .bool b], .int .i64 over] w fun e w' => e = .returned (.tuple #[.int .i64 (Plain.reachV n m u d b over), .int .i64 (Plain.reachE n m u d b over)]) ∧ Below w.heap.size w w' := by
  by_cases hv : Plain.chk n m u d b = 0
  · by_cases h1 : 1 ≤ over
    · by_cases h2 : over ≤ 8
      · have e1 : Plain.reachV n m u d b over = over - 1 + (m - 1) + ((m - 1) * 64 + 1023) / 1024 + 1 := by rw [Plain.reachV, if_pos ⟨hv, h1, h2⟩, Plain.rch]
        have e2 : Plain.reachE n m u d b over = 0 := by rw [Plain.reachE, if_pos hv, if_pos ⟨h1, h2⟩]
        rw [e1, e2]
        exact reach15_ok n m u d b over w hv h1 h2
      · have e1 : Plain.reachV n m u d b over = 0 := by rw [Plain.reachV, if_neg (by omega)]
        have e2 : Plain.reachE n m u d b over = 2 := by rw [Plain.reachE, if_pos hv, if_neg (by omega)]
        rw [e1, e2]
        exact reach15_hi n m u d b over w hv (by omega)
    · have e1 : Plain.reachV n m u d b over = 0 := by rw [Plain.reachV, if_neg (by omega)]
      have e2 : Plain.reachE n m u d b over = 2 := by rw [Plain.reachE, if_pos hv, if_neg (by omega)]
      rw [e1, e2]
      exact reach15_lo n m u d b over w hv (by omega)
  · have e1 : Plain.reachV n m u d b over = 0 := by rw [Plain.reachV, if_neg (by omega)]
    have e2 : Plain.reachE n m u d b over = Plain.chk n m u d b := by rw [Plain.reachE, if_neg hv]
    rw [e1, e2]
    exact reach15_no n m u d b over w _ rfl (by simpa using hv)
theorem reach15_is (n m u d : Int) (b : Bool) (over r e0 : Int) (h1 : Plain.reachV n m u d b over = r) (h2 : Plain.reachE n m u d b over = e0) (w : World) : Calls Try.prog 15 #[.agg #[.int .i64 n, .int .i64 m, .int .i64 u, .int .i64 d, .bool b], .int .i64 over] w fun e w' => e = .returned (.tuple #[.int .i64 r, .int .i64 e0]) ∧ Below w.heap.size w w' := by
  rw [← h1, ← h2]; exact reach15_any n m u d b over w

theorem reach20_no (n m u d : Int) (b : Bool) (over : Int) (w : World) (r : Int) (hv : Plain.chk n m u d b = r) (hne2 : (r != 0) = true) : Calls Try.prog 20 #[.agg #[.int .i64 n, .int .i64 m, .int .i64 u, .int .i64 d, .bool b], .int .i64 over] w fun e w' => e = .returned (.tuple #[.int .i64 0, .int .i64 r]) ∧ Below w.heap.size w w' := by
  have HC := Lib.hid (check21_is n m u d b r hv); clear hv
  go_enter Try.func20, Try.ntmps20
  go_wp2_with fail
  refine (HC.out _).mono ?_
  rintro e w1 ⟨rfl, hb1⟩
  have hc1 := hb1.cell (p := ⟨w.heap.size, 1, none⟩) (by simp)
  have kB : Below w.heap.size w w1 := (below1 w _).trans (hb1.mono (by simp))
  go_wp2_with fail
  go_ret2
  exact ⟨rfl, kB⟩

theorem reach20_lo (n m u d : Int) (b : Bool) (over : Int) (w : World) (hv : Plain.chk n m u d b = 0) (ho : over < 1) : Calls Try.prog 20 #[.agg #[.int .i64 n, .int .i64 m, .int .i64 u, .int .i64 d, .bool b], .int .i64 over] w fun e w' => e = .returned (.tuple #[.int .i64 0, .int .i64 2]) ∧ Below w.heap.size w w' := by
  have HC := Lib.hid (check21_is n m u d b 0 hv); clear hv
  go_enter Try.func20, Try.ntmps20
  go_wp2_with fail
  refine (HC.out _).mono ?_
  rintro e w1 ⟨rfl, hb1⟩
  have hc1 := hb1.cell (p := ⟨w.heap.size, 1, none⟩) (by simp)
  have kB : Below w.heap.size w w1 := (below1 w _).trans (hb1.mono (by simp))
  go_wp2_with fail
  go_ret2
  exact ⟨rfl, kB⟩

theorem reach20_hi (n m u d : Int) (b : Bool) (over : Int) (w : World) (hv : Plain.chk n m u d b = 0) (ho : 8 < over) : Calls Try.prog 20 #[.agg #[.int .i64 n, .int .i64 m, .int .i64 u, .int .i64 d, .bool b], .int .i64 over] w fun e w' => e = .returned (.tuple #[.int .i64 0, .int .i64 2]) ∧ Below w.heap.size w w' := by
  have HC := Lib.hid (check21_is n m u d b 0 hv); clear hv
  go_enter Try.func20, Try.ntmps20
  go_wp2_with fail
  refine (HC.out _).mono ?_
  rintro e w1 ⟨rfl, hb1⟩
  have hc1 := hb1.cell (p := ⟨w.heap.size, 1, none⟩) (by simp)
  have kB : Below w.heap.size w w1 := (below1 w _).trans (hb1.mono (by simp))
  go_wp2_with fail
  go_ret2
  exact ⟨rfl, kB⟩

theorem reach20_ok (n m u d : Int) (b : Bool) (over : Int) (w : World) (hv : Plain.chk n m u d b = 0) (h1 : 1 ≤ over) (h2 : over ≤ 8) : Calls Try.prog 20 #[.agg #[.int .i64 n, .int .i64 m, .int .i64 u, .int .i64 d, .bool b], .int .i64 over] w fun e w' => e = .returned (.tuple #[.int .i64 (over - 1 + (m - 1) + (64 * (m - 1) + 1023) / 1024 + 1), .int .i64 0]) ∧ Below w.heap.size w w' := by
  obtain ⟨_, _, hm, hm2, _⟩ := Plain.chk_bd n m u d b hv
  have HC := Lib.hid (check21_is n m u d b 0 hv); clear hv
  go_enter Try.func20, Try.ntmps20
  go_wp2_with fail
  refine (HC.out _).mono ?_
  rintro e w1 ⟨rfl, hb1⟩
  have hc1 := hb1.cell (p := ⟨w.heap.size, 1, none⟩) (by simp)
  have kB : Below w.heap.size w w1 := (below1 w _).trans (hb1.mono (by simp))
  go_wp2_with fail
  go_ret2
  exact ⟨rfl, kB⟩

theorem reach20_any (n m u d : Int) (b : Bool) (over : Int) (w : World) : Calls Try.prog 20 #[.agg #[.int .i64 n, .int .i64 m, .int .i64 u, .int .i64 d, .bool b], .int .i64 over] w fun e w' => e = .returned (.tuple #[.int .i64 (Plain.reachV n m u d b over), .int .i64 (Plain.reachE n m u d b over)]) ∧ Below w.heap.size w w' := by
  by_cases hv : Plain.chk n m u d b = 0
  · by_cases h1 : 1 ≤ over
    · by_cases h2 : over ≤ 8
      · have e1 : Plain.reachV n m u d b over = over - 1 + (m - 1) + (64 * (m - 1) + 1023) / 1024 + 1 := by rw [Plain.reachV, if_pos ⟨hv, h1, h2⟩, Plain.rch]; omega
        have e2 : Plain.reachE n m u d b over = 0 := by rw [Plain.reachE, if_pos hv, if_pos ⟨h1, h2⟩]
        rw [e1, e2]
        exact reach20_ok n m u d b over w hv h1 h2
      · have e1 : Plain.reachV n m u d b over = 0 := by rw [Plain.reachV, if_neg (by omega)]
        have e2 : Plain.reachE n m u d b over = 2 := by rw [Plain.reachE, if_pos hv, if_neg (by omega)]
        rw [e1, e2]
        exact reach20_hi n m u d b over w hv (by omega)
    · have e1 : Plain.reachV n m u d b over = 0 := by rw [Plain.reachV, if_neg (by omega)]
      have e2 : Plain.reachE n m u d b over = 2 := by rw [Plain.reachE, if_pos hv, if_neg (by omega)]
      rw [e1, e2]
      exact reach20_lo n m u d b over w hv (by omega)
  · have e1 : Plain.reachV n m u d b over = 0 := by rw [Plain.reachV, if_neg (by omega)]
    have e2 : Plain.reachE n m u d b over = Plain.chk n m u d b := by rw [Plain.reachE, if_neg hv]
    rw [e1, e2]
    exact reach20_no n m u d b over w _ rfl (by simpa using hv)
theorem reach20_is (n m u d : Int) (b : Bool) (over r e0 : Int) (h1 : Plain.reachV n m u d b over = r) (h2 : Plain.reachE n m u d b over = e0) (w : World) : Calls Try.prog 20 #[.agg #[.int .i64 n, .int .i64 m, .int .i64 u, .int .i64 d, .bool b], .int .i64 over] w fun e w' => e = .returned (.tuple #[.int .i64 r, .int .i64 e0]) ∧ Below w.heap.size w w' := by
  rw [← h1, ← h2]; exact reach20_any n m u d b over w

theorem pick_any (x n : Int) (w : World) (hn : 1 ≤ n) (hn2 : n ≤ 1000000000000) : Calls Try.prog 16 #[.int .i64 x, .int .i64 n] w fun e w' => e = .returned (.int .i64 (x % n)) ∧ w = w' := by
  by_cases hx : 0 ≤ x
  · have r1 := Int.emod_nonneg x (b := n) (by omega)
    have r2 := Int.emod_lt_of_pos x (b := n) (by omega)
    go_enter Try.func16, Try.ntmps16
    go_wp2_with fail
    go_ret
    exact ⟨rfl, rfl⟩
  · obtain ⟨r1, r2, r3, r4⟩ := Plain.tmod_neg x n (by omega) hn
    by_cases hl : x.tmod n < 0
    · have H := Lib.hid (r3 hl)
      clear r3 r4
      go_enter Try.func16, Try.ntmps16
      go_wp2_with fail
      go_ret
      exact ⟨by rw [H.out]; rfl, rfl⟩
    · have H := Lib.hid (r4 hl)
      clear r3 r4
      go_enter Try.func16, Try.ntmps16
      go_wp2_with fail
      go_ret
      exact ⟨by rw [H.out]; rfl, rfl⟩
theorem pick_is (x n r : Int) (h : x % n = r) (w : World) (hn : 1 ≤ n) (hn2 : n ≤ 1000000000000) : Calls Try.prog 16 #[.int .i64 x, .int .i64 n] w fun e w' => e = .returned (.int .i64 r) ∧ w = w' := by
  rw [← h]; exact pick_any x n w hn hn2
theorem down_any (a : Int) (w : World) (h1 : -1000000000 ≤ a) (h2 : a ≤ 1000000000) : Calls Try.prog 22 #[.int .i64 a] w fun e w' => e = .returned (.int .i64 (a / 1024)) ∧ w = w' := by
  by_cases hx : a < 0
  · have H := Lib.hid (show a / 1024 = -((-a + 1023) / 1024) by omega)
    go_enter Try.func22, Try.ntmps22
    go_wp2_with fail
    go_ret
    exact ⟨by rw [H.out]; rfl, rfl⟩
  · go_enter Try.func22, Try.ntmps22
    go_wp2_with fail
    go_ret
    exact ⟨rfl, rfl⟩
end Go.Proofs.Ytffchacanekhgaa
