/-
  WALKS: which fields a sentence has beside those of its kind (package report): extra, kind 2.
-/
import Derived.Test.YteeekdffbcbamaaGreatDoorBlank
import Derived.ChangeKeysEq
namespace Go.Proofs.YteeekdffbcbamaaGreatDoor
open Go.RowKit

set_option maxRecDepth 100000 in
set_option maxHeartbeats 4000000 in
theorem extra_2 (t : Int) (ok : Bool) (p0 p1 p2 l0 l1 l2 : Int) (A : Option Addr) (n c : Nat) (m g u : Int) (T : ByteArray) (w : World) (r : Bool) (hr : (p0 = 0 ∧ p1 = 0 ∧ p2 = 0 ∧ l0 = 0 ∧ l1 = 0 ∧ l2 = 0 ∧ n = 0 ∧ T.data.toList = []) ↔ r = false) : Calls Tryz.prog 44 #[.agg #[.int .i64 2, .int .i64 t, .bool ok, .int .i64 p0, .int .i64 p1, .int .i64 p2, .int .i64 l0, .int .i64 l1, .int .i64 l2, .slice A n c, .int .i64 m, .int .i64 g, .int .i64 u, .string T]] w fun en w' => en = .returned (.bool r) ∧ Below w.heap.size w w' := by
  by_cases h_p0 : p0 = 0
  · subst h_p0
    by_cases h_p1 : p1 = 0
    · subst h_p1
      by_cases h_p2 : p2 = 0
      · subst h_p2
        by_cases h_l0 : l0 = 0
        · subst h_l0
          by_cases h_l1 : l1 = 0
          · subst h_l1
            by_cases h_l2 : l2 = 0
            · subst h_l2
              by_cases h_n : n = 0
              · subst h_n
                by_cases h_T : T.data.toList = []
                · obtain rfl : T = ⟨#[]⟩ := by apply ByteArray.ext; exact Array.toList_eq_nil_iff.1 h_T
                  obtain rfl : r = false := hr.1 (by simp)
                  clear hr
                  have HB := Lib.hid (blank_2 t ok 0 0 0 0 0 0 A 0 c m g u ⟨#[]⟩)
                  have eP := fun W => eq3_is (same3_refl 0 0 0) W
                  have eL := fun W => eq3_is (same3_refl 0 0 0) W
                  go_enter Tryz.func44, Tryz.ntmps44
                  go_wp2_with fail
                  refine (HB.out _).mono ?_
                  rintro en w1 ⟨rfl, hb1⟩
                  obtain ⟨k0, k1, k2, k3, k4, k5, k6, k7, k8, k9, k10, k11, k12, k13⟩ := Blk.cells14 (Blk.below (heap_alloc_new w _) hb1 (by simp) : Blk w1 w.heap.size 28 #[.int .i64 2, .int .i64 t, .bool ok, .int .i64 0, .int .i64 0, .int .i64 0, .int .i64 0, .int .i64 0, .int .i64 0, .slice A 0 c, .int .i64 m, .int .i64 g, .int .i64 u, .string ⟨#[]⟩])
                  have hl1 : w.heap.size < w1.heap.size := by have := hb1.size; simp at this; omega
                  have HB1 := Lib.hid hb1; clear hb1
                  go_wp2_with fail
                  go_ret
                  exact ⟨rfl, (((Below.refl _ _).alloc (Nat.le_refl _) _).trans (HB1.out.mono (by simp))).alloc (by omega) _⟩
                · obtain rfl : r = true := by cases r <;> simp_all
                  have q1 : ¬ T.toList = [] := by rw [ByteArray.toList_eq]; exact h_T
                  have q2 : T.toList.isEmpty = false := by
                    cases hl : T.toList with
                    | nil => exact absurd hl q1
                    | cons _ _ => rfl
                  clear hr h_T
                  have HB := Lib.hid (blank_2 t ok 0 0 0 0 0 0 A 0 c m g u T)
                  have eP := fun W => eq3_is (same3_refl 0 0 0) W
                  have eL := fun W => eq3_is (same3_refl 0 0 0) W
                  go_enter Tryz.func44, Tryz.ntmps44
                  go_wp2_with fail
                  refine (HB.out _).mono ?_
                  rintro en w1 ⟨rfl, hb1⟩
                  obtain ⟨k0, k1, k2, k3, k4, k5, k6, k7, k8, k9, k10, k11, k12, k13⟩ := Blk.cells14 (Blk.below (heap_alloc_new w _) hb1 (by simp) : Blk w1 w.heap.size 28 #[.int .i64 2, .int .i64 t, .bool ok, .int .i64 0, .int .i64 0, .int .i64 0, .int .i64 0, .int .i64 0, .int .i64 0, .slice A 0 c, .int .i64 m, .int .i64 g, .int .i64 u, .string T])
                  have hl1 : w.heap.size < w1.heap.size := by have := hb1.size; simp at this; omega
                  have HB1 := Lib.hid hb1; clear hb1
                  go_wp2_with fail
                  go_ret
                  exact ⟨rfl, (((Below.refl _ _).alloc (Nat.le_refl _) _).trans (HB1.out.mono (by simp))).alloc (by omega) _⟩
              · obtain rfl : r = true := by cases r <;> simp_all
                have q1 : ((n : Int) == 0) = false := by simpa using h_n
                have q2 : ((n : Int) != 0) = true := by simpa using h_n
                clear hr h_n
                have HB := Lib.hid (blank_2 t ok 0 0 0 0 0 0 A n c m g u T)
                have eP := fun W => eq3_is (same3_refl 0 0 0) W
                have eL := fun W => eq3_is (same3_refl 0 0 0) W
                go_enter Tryz.func44, Tryz.ntmps44
                go_wp2_with fail
                refine (HB.out _).mono ?_
                rintro en w1 ⟨rfl, hb1⟩
                obtain ⟨k0, k1, k2, k3, k4, k5, k6, k7, k8, k9, k10, k11, k12, k13⟩ := Blk.cells14 (Blk.below (heap_alloc_new w _) hb1 (by simp) : Blk w1 w.heap.size 28 #[.int .i64 2, .int .i64 t, .bool ok, .int .i64 0, .int .i64 0, .int .i64 0, .int .i64 0, .int .i64 0, .int .i64 0, .slice A n c, .int .i64 m, .int .i64 g, .int .i64 u, .string T])
                have hl1 : w.heap.size < w1.heap.size := by have := hb1.size; simp at this; omega
                have HB1 := Lib.hid hb1; clear hb1
                go_wp2_with fail
                go_ret
                exact ⟨rfl, (((Below.refl _ _).alloc (Nat.le_refl _) _).trans (HB1.out.mono (by simp))).alloc (by omega) _⟩
            · obtain rfl : r = true := by cases r <;> simp_all
              have q1 : (l2 == 0) = false := by simpa using h_l2
              have q2 : (l2 != 0) = true := by simpa using h_l2
              clear hr h_l2
              have HB := Lib.hid (blank_2 t ok 0 0 0 0 0 l2 A n c m g u T)
              have eP := fun W => eq3_is (same3_refl 0 0 0) W
              have eL := fun W => eq3_is (same3_2 q1 (a := 0) (b := 0) (c := l2) (x := 0) (y := 0) (z := 0)) W
              go_enter Tryz.func44, Tryz.ntmps44
              go_wp2_with fail
              refine (HB.out _).mono ?_
              rintro en w1 ⟨rfl, hb1⟩
              obtain ⟨k0, k1, k2, k3, k4, k5, k6, k7, k8, k9, k10, k11, k12, k13⟩ := Blk.cells14 (Blk.below (heap_alloc_new w _) hb1 (by simp) : Blk w1 w.heap.size 28 #[.int .i64 2, .int .i64 t, .bool ok, .int .i64 0, .int .i64 0, .int .i64 0, .int .i64 0, .int .i64 0, .int .i64 l2, .slice A n c, .int .i64 m, .int .i64 g, .int .i64 u, .string T])
              have hl1 : w.heap.size < w1.heap.size := by have := hb1.size; simp at this; omega
              have HB1 := Lib.hid hb1; clear hb1
              go_wp2_with fail
              go_ret
              exact ⟨rfl, (((Below.refl _ _).alloc (Nat.le_refl _) _).trans (HB1.out.mono (by simp))).alloc (by omega) _⟩
          · obtain rfl : r = true := by cases r <;> simp_all
            have q1 : (l1 == 0) = false := by simpa using h_l1
            have q2 : (l1 != 0) = true := by simpa using h_l1
            clear hr h_l1
            have HB := Lib.hid (blank_2 t ok 0 0 0 0 l1 l2 A n c m g u T)
            have eP := fun W => eq3_is (same3_refl 0 0 0) W
            have eL := fun W => eq3_is (same3_1 q1 (a := 0) (b := l1) (c := l2) (x := 0) (y := 0) (z := 0)) W
            go_enter Tryz.func44, Tryz.ntmps44
            go_wp2_with fail
            refine (HB.out _).mono ?_
            rintro en w1 ⟨rfl, hb1⟩
            obtain ⟨k0, k1, k2, k3, k4, k5, k6, k7, k8, k9, k10, k11, k12, k13⟩ := Blk.cells14 (Blk.below (heap_alloc_new w _) hb1 (by simp) : Blk w1 w.heap.size 28 #[.int .i64 2, .int .i64 t, .bool ok, .int .i64 0, .int .i64 0, .int .i64 0, .int .i64 0, .int .i64 l1, .int .i64 l2, .slice A n c, .int .i64 m, .int .i64 g, .int .i64 u, .string T])
            have hl1 : w.heap.size < w1.heap.size := by have := hb1.size; simp at this; omega
            have HB1 := Lib.hid hb1; clear hb1
            go_wp2_with fail
            go_ret
            exact ⟨rfl, (((Below.refl _ _).alloc (Nat.le_refl _) _).trans (HB1.out.mono (by simp))).alloc (by omega) _⟩
        · obtain rfl : r = true := by cases r <;> simp_all
          have q1 : (l0 == 0) = false := by simpa using h_l0
          have q2 : (l0 != 0) = true := by simpa using h_l0
          clear hr h_l0
          have HB := Lib.hid (blank_2 t ok 0 0 0 l0 l1 l2 A n c m g u T)
          have eP := fun W => eq3_is (same3_refl 0 0 0) W
          have eL := fun W => eq3_is (same3_0 q1 (a := l0) (b := l1) (c := l2) (x := 0) (y := 0) (z := 0)) W
          go_enter Tryz.func44, Tryz.ntmps44
          go_wp2_with fail
          refine (HB.out _).mono ?_
          rintro en w1 ⟨rfl, hb1⟩
          obtain ⟨k0, k1, k2, k3, k4, k5, k6, k7, k8, k9, k10, k11, k12, k13⟩ := Blk.cells14 (Blk.below (heap_alloc_new w _) hb1 (by simp) : Blk w1 w.heap.size 28 #[.int .i64 2, .int .i64 t, .bool ok, .int .i64 0, .int .i64 0, .int .i64 0, .int .i64 l0, .int .i64 l1, .int .i64 l2, .slice A n c, .int .i64 m, .int .i64 g, .int .i64 u, .string T])
          have hl1 : w.heap.size < w1.heap.size := by have := hb1.size; simp at this; omega
          have HB1 := Lib.hid hb1; clear hb1
          go_wp2_with fail
          go_ret
          exact ⟨rfl, (((Below.refl _ _).alloc (Nat.le_refl _) _).trans (HB1.out.mono (by simp))).alloc (by omega) _⟩
      · obtain rfl : r = true := by cases r <;> simp_all
        have q1 : (p2 == 0) = false := by simpa using h_p2
        have q2 : (p2 != 0) = true := by simpa using h_p2
        clear hr h_p2
        have HB := Lib.hid (blank_2 t ok 0 0 p2 l0 l1 l2 A n c m g u T)
        have eP := fun W => eq3_is (same3_2 q1 (a := 0) (b := 0) (c := p2) (x := 0) (y := 0) (z := 0)) W
        go_enter Tryz.func44, Tryz.ntmps44
        go_wp2_with fail
        refine (HB.out _).mono ?_
        rintro en w1 ⟨rfl, hb1⟩
        obtain ⟨k0, k1, k2, k3, k4, k5, k6, k7, k8, k9, k10, k11, k12, k13⟩ := Blk.cells14 (Blk.below (heap_alloc_new w _) hb1 (by simp) : Blk w1 w.heap.size 28 #[.int .i64 2, .int .i64 t, .bool ok, .int .i64 0, .int .i64 0, .int .i64 p2, .int .i64 l0, .int .i64 l1, .int .i64 l2, .slice A n c, .int .i64 m, .int .i64 g, .int .i64 u, .string T])
        have hl1 : w.heap.size < w1.heap.size := by have := hb1.size; simp at this; omega
        have HB1 := Lib.hid hb1; clear hb1
        go_wp2_with fail
        go_ret
        exact ⟨rfl, (((Below.refl _ _).alloc (Nat.le_refl _) _).trans (HB1.out.mono (by simp))).alloc (by omega) _⟩
    · obtain rfl : r = true := by cases r <;> simp_all
      have q1 : (p1 == 0) = false := by simpa using h_p1
      have q2 : (p1 != 0) = true := by simpa using h_p1
      clear hr h_p1
      have HB := Lib.hid (blank_2 t ok 0 p1 p2 l0 l1 l2 A n c m g u T)
      have eP := fun W => eq3_is (same3_1 q1 (a := 0) (b := p1) (c := p2) (x := 0) (y := 0) (z := 0)) W
      go_enter Tryz.func44, Tryz.ntmps44
      go_wp2_with fail
      refine (HB.out _).mono ?_
      rintro en w1 ⟨rfl, hb1⟩
      obtain ⟨k0, k1, k2, k3, k4, k5, k6, k7, k8, k9, k10, k11, k12, k13⟩ := Blk.cells14 (Blk.below (heap_alloc_new w _) hb1 (by simp) : Blk w1 w.heap.size 28 #[.int .i64 2, .int .i64 t, .bool ok, .int .i64 0, .int .i64 p1, .int .i64 p2, .int .i64 l0, .int .i64 l1, .int .i64 l2, .slice A n c, .int .i64 m, .int .i64 g, .int .i64 u, .string T])
      have hl1 : w.heap.size < w1.heap.size := by have := hb1.size; simp at this; omega
      have HB1 := Lib.hid hb1; clear hb1
      go_wp2_with fail
      go_ret
      exact ⟨rfl, (((Below.refl _ _).alloc (Nat.le_refl _) _).trans (HB1.out.mono (by simp))).alloc (by omega) _⟩
  · obtain rfl : r = true := by cases r <;> simp_all
    have q1 : (p0 == 0) = false := by simpa using h_p0
    have q2 : (p0 != 0) = true := by simpa using h_p0
    clear hr h_p0
    have HB := Lib.hid (blank_2 t ok p0 p1 p2 l0 l1 l2 A n c m g u T)
    have eP := fun W => eq3_is (same3_0 q1 (a := p0) (b := p1) (c := p2) (x := 0) (y := 0) (z := 0)) W
    go_enter Tryz.func44, Tryz.ntmps44
    go_wp2_with fail
    refine (HB.out _).mono ?_
    rintro en w1 ⟨rfl, hb1⟩
    obtain ⟨k0, k1, k2, k3, k4, k5, k6, k7, k8, k9, k10, k11, k12, k13⟩ := Blk.cells14 (Blk.below (heap_alloc_new w _) hb1 (by simp) : Blk w1 w.heap.size 28 #[.int .i64 2, .int .i64 t, .bool ok, .int .i64 p0, .int .i64 p1, .int .i64 p2, .int .i64 l0, .int .i64 l1, .int .i64 l2, .slice A n c, .int .i64 m, .int .i64 g, .int .i64 u, .string T])
    have hl1 : w.heap.size < w1.heap.size := by have := hb1.size; simp at this; omega
    have HB1 := Lib.hid hb1; clear hb1
    go_wp2_with fail
    go_ret
    exact ⟨rfl, (((Below.refl _ _).alloc (Nat.le_refl _) _).trans (HB1.out.mono (by simp))).alloc (by omega) _⟩
end Go.Proofs.YteeekdffbcbamaaGreatDoor
