/-
  WALKS: which fields a sentence has beside those of its kind (package report): extra, kind 3.
-/
import Derived.Test.YteeekdffbcbamaaGreatDoorBlank
import Derived.ChangeKeysEq
namespace Go.Proofs.YteeekdffbcbamaaGreatDoor
open Go.RowKit

set_option maxRecDepth 100000 in
set_option maxHeartbeats 4000000 in
theorem extra_3 (t : Int) (ok : Bool) (p0 p1 p2 l0 l1 l2 : Int) (A : Option Addr) (n c : Nat) (m g u : Int) (T : ByteArray) (w : World) (r : Bool) (hr : (ok = false ∧ p0 = 0 ∧ p1 = 0 ∧ p2 = 0 ∧ l0 = 0 ∧ l1 = 0 ∧ l2 = 0 ∧ n = 0 ∧ m = 0 ∧ g = 0 ∧ u = 0) ↔ r = false) : Calls Tryz.prog 44 #[.agg #[.int .i64 3, .int .i64 t, .bool ok, .int .i64 p0, .int .i64 p1, .int .i64 p2, .int .i64 l0, .int .i64 l1, .int .i64 l2, .slice A n c, .int .i64 m, .int .i64 g, .int .i64 u, .string T]] w fun en w' => en = .returned (.bool r) ∧ Below w.heap.size w w' := by
  by_cases h_ok : ok = false
  · subst h_ok
    by_cases h_p0 : p0 = 0
    · subst h_p0
      by_cases h_p1 : p1 = 0
      · subst h_p1
        by_cases h_p2 : p2 = 0
        · subst h_p2
          by_cases h_l0 : l0 = 0
          · subst h_l0
            by_cases h_l1 : l1 = 0
            · subst h_l1
              by_cases h_l2 : l2 = 0
              · subst h_l2
                by_cases h_n : n = 0
                · subst h_n
                  by_cases h_m : m = 0
                  · subst h_m
                    by_cases h_g : g = 0
                    · subst h_g
                      by_cases h_u : u = 0
                      · subst h_u
                        obtain rfl : r = false := hr.1 (by simp)
                        clear hr
                        as_aux_lemma =>
                          have HB := Lib.hid (blank_3 t false 0 0 0 0 0 0 A 0 c 0 0 0 T)
                          have eP := fun W => eq3_is (same3_refl 0 0 0) W
                          have eL := fun W => eq3_is (same3_refl 0 0 0) W
                          go_enter Tryz.func44, Tryz.ntmps44
                          go_wp2_with fail
                          refine (HB.out _).mono ?_
                          rintro en w1 ⟨rfl, hb1⟩
                          obtain ⟨k0, k1, k2, k3, k4, k5, k6, k7, k8, k9, k10, k11, k12, k13⟩ := Blk.cells14 (Blk.below (heap_alloc_new w _) hb1 (by simp) : Blk w1 w.heap.size 28 #[.int .i64 3, .int .i64 t, .bool false, .int .i64 0, .int .i64 0, .int .i64 0, .int .i64 0, .int .i64 0, .int .i64 0, .slice A 0 c, .int .i64 0, .int .i64 0, .int .i64 0, .string T])
                          have hl1 : w.heap.size < w1.heap.size := by have := hb1.size; simp at this; omega
                          have HB1 := Lib.hid hb1; clear hb1
                          go_wp2_with fail
                          go_ret
                          exact ⟨rfl, (((Below.refl _ _).alloc (Nat.le_refl _) _).trans (HB1.out.mono (by simp))).alloc (by omega) _⟩
                      · obtain rfl : r = true := by cases r <;> simp_all
                        have q1 : (u == 0) = false := by simpa using h_u
                        have q2 : (u != 0) = true := by simpa using h_u
                        clear hr h_u
                        as_aux_lemma =>
                          have HB := Lib.hid (blank_3 t false 0 0 0 0 0 0 A 0 c 0 0 u T)
                          have eP := fun W => eq3_is (same3_refl 0 0 0) W
                          have eL := fun W => eq3_is (same3_refl 0 0 0) W
                          go_enter Tryz.func44, Tryz.ntmps44
                          go_wp2_with fail
                          refine (HB.out _).mono ?_
                          rintro en w1 ⟨rfl, hb1⟩
                          obtain ⟨k0, k1, k2, k3, k4, k5, k6, k7, k8, k9, k10, k11, k12, k13⟩ := Blk.cells14 (Blk.below (heap_alloc_new w _) hb1 (by simp) : Blk w1 w.heap.size 28 #[.int .i64 3, .int .i64 t, .bool false, .int .i64 0, .int .i64 0, .int .i64 0, .int .i64 0, .int .i64 0, .int .i64 0, .slice A 0 c, .int .i64 0, .int .i64 0, .int .i64 u, .string T])
                          have hl1 : w.heap.size < w1.heap.size := by have := hb1.size; simp at this; omega
                          have HB1 := Lib.hid hb1; clear hb1
                          go_wp2_with fail
                          go_ret
                          exact ⟨rfl, (((Below.refl _ _).alloc (Nat.le_refl _) _).trans (HB1.out.mono (by simp))).alloc (by omega) _⟩
                    · obtain rfl : r = true := by cases r <;> simp_all
                      have q1 : (g == 0) = false := by simpa using h_g
                      have q2 : (g != 0) = true := by simpa using h_g
                      clear hr h_g
                      as_aux_lemma =>
                        have HB := Lib.hid (blank_3 t false 0 0 0 0 0 0 A 0 c 0 g u T)
                        have eP := fun W => eq3_is (same3_refl 0 0 0) W
                        have eL := fun W => eq3_is (same3_refl 0 0 0) W
                        go_enter Tryz.func44, Tryz.ntmps44
                        go_wp2_with fail
                        refine (HB.out _).mono ?_
                        rintro en w1 ⟨rfl, hb1⟩
                        obtain ⟨k0, k1, k2, k3, k4, k5, k6, k7, k8, k9, k10, k11, k12, k13⟩ := Blk.cells14 (Blk.below (heap_alloc_new w _) hb1 (by simp) : Blk w1 w.heap.size 28 #[.int .i64 3, .int .i64 t, .bool false, .int .i64 0, .int .i64 0, .int .i64 0, .int .i64 0, .int .i64 0, .int .i64 0, .slice A 0 c, .int .i64 0, .int .i64 g, .int .i64 u, .string T])
                        have hl1 : w.heap.size < w1.heap.size := by have := hb1.size; simp at this; omega
                        have HB1 := Lib.hid hb1; clear hb1
                        go_wp2_with fail
                        go_ret
                        exact ⟨rfl, (((Below.refl _ _).alloc (Nat.le_refl _) _).trans (HB1.out.mono (by simp))).alloc (by omega) _⟩
                  · obtain rfl : r = true := by cases r <;> simp_all
                    have q1 : (m == 0) = false := by simpa using h_m
                    have q2 : (m != 0) = true := by simpa using h_m
                    clear hr h_m
                    as_aux_lemma =>
                      have HB := Lib.hid (blank_3 t false 0 0 0 0 0 0 A 0 c m g u T)
                      have eP := fun W => eq3_is (same3_refl 0 0 0) W
                      have eL := fun W => eq3_is (same3_refl 0 0 0) W
                      go_enter Tryz.func44, Tryz.ntmps44
                      go_wp2_with fail
                      refine (HB.out _).mono ?_
                      rintro en w1 ⟨rfl, hb1⟩
                      obtain ⟨k0, k1, k2, k3, k4, k5, k6, k7, k8, k9, k10, k11, k12, k13⟩ := Blk.cells14 (Blk.below (heap_alloc_new w _) hb1 (by simp) : Blk w1 w.heap.size 28 #[.int .i64 3, .int .i64 t, .bool false, .int .i64 0, .int .i64 0, .int .i64 0, .int .i64 0, .int .i64 0, .int .i64 0, .slice A 0 c, .int .i64 m, .int .i64 g, .int .i64 u, .string T])
                      have hl1 : w.heap.size < w1.heap.size := by have := hb1.size; simp at this; omega
                      have HB1 := Lib.hid hb1; clear hb1
                      go_wp2_with fail
                      go_ret
                      exact ⟨rfl, (((Below.refl _ _).alloc (Nat.le_refl _) _).trans (HB1.out.mono (by simp))).alloc (by omega) _⟩
                · obtain rfl : r = true := by cases r <;> simp_all
                  have q1 : ((n : Int) == 0) = false := by simpa using h_n
                  have q2 : ((n : Int) != 0) = true := by simpa using h_n
                  clear hr h_n
                  as_aux_lemma =>
                    have HB := Lib.hid (blank_3 t false 0 0 0 0 0 0 A n c m g u T)
                    have eP := fun W => eq3_is (same3_refl 0 0 0) W
                    have eL := fun W => eq3_is (same3_refl 0 0 0) W
                    go_enter Tryz.func44, Tryz.ntmps44
                    go_wp2_with fail
                    refine (HB.out _).mono ?_
                    rintro en w1 ⟨rfl, hb1⟩
                    obtain ⟨k0, k1, k2, k3, k4, k5, k6, k7, k8, k9, k10, k11, k12, k13⟩ := Blk.cells14 (Blk.below (heap_alloc_new w _) hb1 (by simp) : Blk w1 w.heap.size 28 #[.int .i64 3, .int .i64 t, .bool false, .int .i64 0, .int .i64 0, .int .i64 0, .int .i64 0, .int .i64 0, .int .i64 0, .slice A n c, .int .i64 m, .int .i64 g, .int .i64 u, .string T])
                    have hl1 : w.heap.size < w1.heap.size := by have := hb1.size; simp at this; omega
                    have HB1 := Lib.hid hb1; clear hb1
                    go_wp2_with fail
                    go_ret
                    exact ⟨rfl, (((Below.refl _ _).alloc (Nat.le_refl _) _).trans (HB1.out.mono (by simp))).alloc (by omega) _⟩
              · obtain rfl : r = true := by cases r <;> simp_all
                have q1 : (l2 == 0) = false := by simpa using h_l2
                have q2 : (l2 != 0) = true := by simpa using h_l2
                clear hr h_l2
                as_aux_lemma =>
                  have HB := Lib.hid (blank_3 t false 0 0 0 0 0 l2 A n c m g u T)
                  have eP := fun W => eq3_is (same3_refl 0 0 0) W
                  have eL := fun W => eq3_is (same3_2 q1 (a := 0) (b := 0) (c := l2) (x := 0) (y := 0) (z := 0)) W
                  go_enter Tryz.func44, Tryz.ntmps44
                  go_wp2_with fail
                  refine (HB.out _).mono ?_
                  rintro en w1 ⟨rfl, hb1⟩
                  obtain ⟨k0, k1, k2, k3, k4, k5, k6, k7, k8, k9, k10, k11, k12, k13⟩ := Blk.cells14 (Blk.below (heap_alloc_new w _) hb1 (by simp) : Blk w1 w.heap.size 28 #[.int .i64 3, .int .i64 t, .bool false, .int .i64 0, .int .i64 0, .int .i64 0, .int .i64 0, .int .i64 0, .int .i64 l2, .slice A n c, .int .i64 m, .int .i64 g, .int .i64 u, .string T])
                  have hl1 : w.heap.size < w1.heap.size := by have := hb1.size; simp at this; omega
                  have HB1 := Lib.hid hb1; clear hb1
                  go_wp2_with fail
                  go_ret
                  exact ⟨rfl, (((Below.refl _ _).alloc (Nat.le_refl _) _).trans (HB1.out.mono (by simp))).alloc (by omega) _⟩
            · obtain rfl : r = true := by cases r <;> simp_all
              have q1 : (l1 == 0) = false := by simpa using h_l1
              have q2 : (l1 != 0) = true := by simpa using h_l1
              clear hr h_l1
              as_aux_lemma =>
                have HB := Lib.hid (blank_3 t false 0 0 0 0 l1 l2 A n c m g u T)
                have eP := fun W => eq3_is (same3_refl 0 0 0) W
                have eL := fun W => eq3_is (same3_1 q1 (a := 0) (b := l1) (c := l2) (x := 0) (y := 0) (z := 0)) W
                go_enter Tryz.func44, Tryz.ntmps44
                go_wp2_with fail
                refine (HB.out _).mono ?_
                rintro en w1 ⟨rfl, hb1⟩
                obtain ⟨k0, k1, k2, k3, k4, k5, k6, k7, k8, k9, k10, k11, k12, k13⟩ := Blk.cells14 (Blk.below (heap_alloc_new w _) hb1 (by simp) : Blk w1 w.heap.size 28 #[.int .i64 3, .int .i64 t, .bool false, .int .i64 0, .int .i64 0, .int .i64 0, .int .i64 0, .int .i64 l1, .int .i64 l2, .slice A n c, .int .i64 m, .int .i64 g, .int .i64 u, .string T])
                have hl1 : w.heap.size < w1.heap.size := by have := hb1.size; simp at this; omega
                have HB1 := Lib.hid hb1; clear hb1
                go_wp2_with fail
                go_ret
                exact ⟨rfl, (((Below.refl _ _).alloc (Nat.le_refl _) _).trans (HB1.out.mono (by simp))).alloc (by omega) _⟩
          · obtain rfl : r = true := by cases r <;> simp_all
            have q1 : (l0 == 0) = false := by simpa using h_l0
            have q2 : (l0 != 0) = true := by simpa using h_l0
            clear hr h_l0
            as_aux_lemma =>
              have HB := Lib.hid (blank_3 t false 0 0 0 l0 l1 l2 A n c m g u T)
              have eP := fun W => eq3_is (same3_refl 0 0 0) W
              have eL := fun W => eq3_is (same3_0 q1 (a := l0) (b := l1) (c := l2) (x := 0) (y := 0) (z := 0)) W
              go_enter Tryz.func44, Tryz.ntmps44
              go_wp2_with fail
              refine (HB.out _).mono ?_
              rintro en w1 ⟨rfl, hb1⟩
              obtain ⟨k0, k1, k2, k3, k4, k5, k6, k7, k8, k9, k10, k11, k12, k13⟩ := Blk.cells14 (Blk.below (heap_alloc_new w _) hb1 (by simp) : Blk w1 w.heap.size 28 #[.int .i64 3, .int .i64 t, .bool false, .int .i64 0, .int .i64 0, .int .i64 0, .int .i64 l0, .int .i64 l1, .int .i64 l2, .slice A n c, .int .i64 m, .int .i64 g, .int .i64 u, .string T])
              have hl1 : w.heap.size < w1.heap.size := by have := hb1.size; simp at this; omega
              have HB1 := Lib.hid hb1; clear hb1
              go_wp2_with fail
              go_ret
              exact ⟨rfl, (((Below.refl _ _).alloc (Nat.le_refl _) _).trans (HB1.out.mono (by simp))).alloc (by omega) _⟩
        · obtain rfl : r = true := by cases r <;> simp_all
          have q1 : (p2 == 0) = false := by simpa using h_p2
          have q2 : (p2 != 0) = true := by simpa using h_p2
          clear hr h_p2
          as_aux_lemma =>
            have HB := Lib.hid (blank_3 t false 0 0 p2 l0 l1 l2 A n c m g u T)
            have eP := fun W => eq3_is (same3_2 q1 (a := 0) (b := 0) (c := p2) (x := 0) (y := 0) (z := 0)) W
            go_enter Tryz.func44, Tryz.ntmps44
            go_wp2_with fail
            refine (HB.out _).mono ?_
            rintro en w1 ⟨rfl, hb1⟩
            obtain ⟨k0, k1, k2, k3, k4, k5, k6, k7, k8, k9, k10, k11, k12, k13⟩ := Blk.cells14 (Blk.below (heap_alloc_new w _) hb1 (by simp) : Blk w1 w.heap.size 28 #[.int .i64 3, .int .i64 t, .bool false, .int .i64 0, .int .i64 0, .int .i64 p2, .int .i64 l0, .int .i64 l1, .int .i64 l2, .slice A n c, .int .i64 m, .int .i64 g, .int .i64 u, .string T])
            have hl1 : w.heap.size < w1.heap.size := by have := hb1.size; simp at this; omega
            have HB1 := Lib.hid hb1; clear hb1
            go_wp2_with fail
            go_ret
            exact ⟨rfl, (((Below.refl _ _).alloc (Nat.le_refl _) _).trans (HB1.out.mono (by simp))).alloc (by omega) _⟩
      · obtain rfl : r = true := by cases r <;> simp_all
        have q1 : (p1 == 0) = false := by simpa using h_p1
        have q2 : (p1 != 0) = true := by simpa using h_p1
        clear hr h_p1
        as_aux_lemma =>
          have HB := Lib.hid (blank_3 t false 0 p1 p2 l0 l1 l2 A n c m g u T)
          have eP := fun W => eq3_is (same3_1 q1 (a := 0) (b := p1) (c := p2) (x := 0) (y := 0) (z := 0)) W
          go_enter Tryz.func44, Tryz.ntmps44
          go_wp2_with fail
          refine (HB.out _).mono ?_
          rintro en w1 ⟨rfl, hb1⟩
          obtain ⟨k0, k1, k2, k3, k4, k5, k6, k7, k8, k9, k10, k11, k12, k13⟩ := Blk.cells14 (Blk.below (heap_alloc_new w _) hb1 (by simp) : Blk w1 w.heap.size 28 #[.int .i64 3, .int .i64 t, .bool false, .int .i64 0, .int .i64 p1, .int .i64 p2, .int .i64 l0, .int .i64 l1, .int .i64 l2, .slice A n c, .int .i64 m, .int .i64 g, .int .i64 u, .string T])
          have hl1 : w.heap.size < w1.heap.size := by have := hb1.size; simp at this; omega
          have HB1 := Lib.hid hb1; clear hb1
          go_wp2_with fail
          go_ret
          exact ⟨rfl, (((Below.refl _ _).alloc (Nat.le_refl _) _).trans (HB1.out.mono (by simp))).alloc (by omega) _⟩
    · obtain rfl : r = true := by cases r <;> simp_all
      have q1 : (p0 == 0) = false := by simpa using h_p0
      have q2 : (p0 != 0) = true := by simpa using h_p0
      clear hr h_p0
      as_aux_lemma =>
        have HB := Lib.hid (blank_3 t false p0 p1 p2 l0 l1 l2 A n c m g u T)
        have eP := fun W => eq3_is (same3_0 q1 (a := p0) (b := p1) (c := p2) (x := 0) (y := 0) (z := 0)) W
        go_enter Tryz.func44, Tryz.ntmps44
        go_wp2_with fail
        refine (HB.out _).mono ?_
        rintro en w1 ⟨rfl, hb1⟩
        obtain ⟨k0, k1, k2, k3, k4, k5, k6, k7, k8, k9, k10, k11, k12, k13⟩ := Blk.cells14 (Blk.below (heap_alloc_new w _) hb1 (by simp) : Blk w1 w.heap.size 28 #[.int .i64 3, .int .i64 t, .bool false, .int .i64 p0, .int .i64 p1, .int .i64 p2, .int .i64 l0, .int .i64 l1, .int .i64 l2, .slice A n c, .int .i64 m, .int .i64 g, .int .i64 u, .string T])
        have hl1 : w.heap.size < w1.heap.size := by have := hb1.size; simp at this; omega
        have HB1 := Lib.hid hb1; clear hb1
        go_wp2_with fail
        go_ret
        exact ⟨rfl, (((Below.refl _ _).alloc (Nat.le_refl _) _).trans (HB1.out.mono (by simp))).alloc (by omega) _⟩
  · obtain rfl : r = true := by cases r <;> simp_all
    obtain rfl : ok = true := by cases ok <;> simp_all
    clear hr
    as_aux_lemma =>
      have HB := Lib.hid (blank_3 t true p0 p1 p2 l0 l1 l2 A n c m g u T)
      go_enter Tryz.func44, Tryz.ntmps44
      go_wp2_with fail
      refine (HB.out _).mono ?_
      rintro en w1 ⟨rfl, hb1⟩
      obtain ⟨k0, k1, k2, k3, k4, k5, k6, k7, k8, k9, k10, k11, k12, k13⟩ := Blk.cells14 (Blk.below (heap_alloc_new w _) hb1 (by simp) : Blk w1 w.heap.size 28 #[.int .i64 3, .int .i64 t, .bool true, .int .i64 p0, .int .i64 p1, .int .i64 p2, .int .i64 l0, .int .i64 l1, .int .i64 l2, .slice A n c, .int .i64 m, .int .i64 g, .int .i64 u, .string T])
      have hl1 : w.heap.size < w1.heap.size := by have := hb1.size; simp at this; omega
      have HB1 := Lib.hid hb1; clear hb1
      go_wp2_with fail
      go_ret
      exact ⟨rfl, (((Below.refl _ _).alloc (Nat.le_refl _) _).trans (HB1.out.mono (by simp))).alloc (by omega) _⟩
end Go.Proofs.YteeekdffbcbamaaGreatDoor
