/-
  WALKS: which fields a sentence has beside those of its kind (package report): extra, kind 1.
-/
import Derived.Test.YteeekdffbcbamaaGreatDoorBlank
import Derived.ChangeKeysEq
namespace Go.Proofs.YteeekdffbcbamaaGreatDoor
open Go.RowKit

set_option maxRecDepth 100000 in
set_option maxHeartbeats 4000000 in
theorem extra_1 (t : Int) (ok : Bool) (p0 p1 p2 l0 l1 l2 : Int) (A : Option Addr) (n c : Nat) (m g u : Int) (T : ByteArray) (w : World) (r : Bool) (hr : (m = 0 ∧ g = 0 ∧ u = 0 ∧ T.data.toList = []) ↔ r = false) : Calls Tryz.prog 44 #[.agg #[.int .i64 1, .int .i64 t, .bool ok, .int .i64 p0, .int .i64 p1, .int .i64 p2, .int .i64 l0, .int .i64 l1, .int .i64 l2, .slice A n c, .int .i64 m, .int .i64 g, .int .i64 u, .string T]] w fun en w' => en = .returned (.bool r) ∧ Below w.heap.size w w' := by
  by_cases h_m : m = 0
  · subst h_m
    by_cases h_g : g = 0
    · subst h_g
      by_cases h_u : u = 0
      · subst h_u
        by_cases h_T : T.data.toList = []
        · obtain rfl : T = ⟨#[]⟩ := by apply ByteArray.ext; exact Array.toList_eq_nil_iff.1 h_T
          obtain rfl : r = false := hr.1 (by simp)
          clear hr
          have HB := Lib.hid (blank_1 t ok p0 p1 p2 l0 l1 l2 A n c 0 0 0 ⟨#[]⟩)
          have eP := fun W => eq3_is (same3_refl p0 p1 p2) W
          have eL := fun W => eq3_is (same3_refl l0 l1 l2) W
          go_enter Tryz.func44, Tryz.ntmps44
          go_wp2_with fail
          refine (HB.out _).mono ?_
          rintro en w1 ⟨rfl, hb1⟩
          obtain ⟨k0, k1, k2, k3, k4, k5, k6, k7, k8, k9, k10, k11, k12, k13⟩ := Blk.cells14 (Blk.below (heap_alloc_new w _) hb1 (by simp) : Blk w1 w.heap.size 28 #[.int .i64 1, .int .i64 t, .bool ok, .int .i64 p0, .int .i64 p1, .int .i64 p2, .int .i64 l0, .int .i64 l1, .int .i64 l2, .slice A n c, .int .i64 0, .int .i64 0, .int .i64 0, .string ⟨#[]⟩])
          have hl1 : w.heap.size < w1.heap.size := by have := hb1.size; simp at this; omega
          have HB1 := Lib.hid hb1; clear hb1
          go_wp2_with fail
          go_ret
          exact ⟨rfl, (((Below.refl _ _).alloc (Nat.le_refl _) _).trans (HB1.out.mono (by simp))).alloc (by omega) _⟩
        · obtain rfl : r = true := by cases r <;> simp_all
          have q1 : ¬ T.toList = [] := by rw [ByteArray.toList_eq]; exact h_T
          have q2 : T.toList.isEmpty = false := by
            cases hl : T.toList with
            | nil => exact absurd hl q1
            | cons _ _ => rfl
          clear hr h_T
          have HB := Lib.hid (blank_1 t ok p0 p1 p2 l0 l1 l2 A n c 0 0 0 T)
          have eP := fun W => eq3_is (same3_refl p0 p1 p2) W
          have eL := fun W => eq3_is (same3_refl l0 l1 l2) W
          go_enter Tryz.func44, Tryz.ntmps44
          go_wp2_with fail
          refine (HB.out _).mono ?_
          rintro en w1 ⟨rfl, hb1⟩
          obtain ⟨k0, k1, k2, k3, k4, k5, k6, k7, k8, k9, k10, k11, k12, k13⟩ := Blk.cells14 (Blk.below (heap_alloc_new w _) hb1 (by simp) : Blk w1 w.heap.size 28 #[.int .i64 1, .int .i64 t, .bool ok, .int .i64 p0, .int .i64 p1, .int .i64 p2, .int .i64 l0, .int .i64 l1, .int .i64 l2, .slice A n c, .int .i64 0, .int .i64 0, .int .i64 0, .string T])
          have hl1 : w.heap.size < w1.heap.size := by have := hb1.size; simp at this; omega
          have HB1 := Lib.hid hb1; clear hb1
          go_wp2_with fail
          go_ret
          exact ⟨rfl, (((Below.refl _ _).alloc (Nat.le_refl _) _).trans (HB1.out.mono (by simp))).alloc (by omega) _⟩
      · obtain rfl : r = true := by cases r <;> simp_all
        have q1 : (u == 0) = false := by simpa using h_u
        have q2 : (u != 0) = true := by simpa using h_u
        clear hr h_u
        have HB := Lib.hid (blank_1 t ok p0 p1 p2 l0 l1 l2 A n c 0 0 u T)
        have eP := fun W => eq3_is (same3_refl p0 p1 p2) W
        have eL := fun W => eq3_is (same3_refl l0 l1 l2) W
        go_enter Tryz.func44, Tryz.ntmps44
        go_wp2_with fail
        refine (HB.out _).mono ?_
        rintro en w1 ⟨rfl, hb1⟩
        obtain ⟨k0, k1, k2, k3, k4, k5, k6, k7, k8, k9, k10, k11, k12, k13⟩ := Blk.cells14 (Blk.below (heap_alloc_new w _) hb1 (by simp) : Blk w1 w.heap.size 28 #[.int .i64 1, .int .i64 t, .bool ok, .int .i64 p0, .int .i64 p1, .int .i64 p2, .int .i64 l0, .int .i64 l1, .int .i64 l2, .slice A n c, .int .i64 0, .int .i64 0, .int .i64 u, .string T])
        have hl1 : w.heap.size < w1.heap.size := by have := hb1.size; simp at this; omega
        have HB1 := Lib.hid hb1; clear hb1
        go_wp2_with fail
        go_ret
        exact ⟨rfl, (((Below.refl _ _).alloc (Nat.le_refl _) _).trans (HB1.out.mono (by simp))).alloc (by omega) _⟩
    · obtain rfl : r = true := by cases r <;> simp_all
      have q1 : (g == 0) = false := by simpa using h_g
      have q2 : (g != 0) = true := by simpa using h_g
      clear hr h_g
      have HB := Lib.hid (blank_1 t ok p0 p1 p2 l0 l1 l2 A n c 0 g u T)
      have eP := fun W => eq3_is (same3_refl p0 p1 p2) W
      have eL := fun W => eq3_is (same3_refl l0 l1 l2) W
      go_enter Tryz.func44, Tryz.ntmps44
      go_wp2_with fail
      refine (HB.out _).mono ?_
      rintro en w1 ⟨rfl, hb1⟩
      obtain ⟨k0, k1, k2, k3, k4, k5, k6, k7, k8, k9, k10, k11, k12, k13⟩ := Blk.cells14 (Blk.below (heap_alloc_new w _) hb1 (by simp) : Blk w1 w.heap.size 28 #[.int .i64 1, .int .i64 t, .bool ok, .int .i64 p0, .int .i64 p1, .int .i64 p2, .int .i64 l0, .int .i64 l1, .int .i64 l2, .slice A n c, .int .i64 0, .int .i64 g, .int .i64 u, .string T])
      have hl1 : w.heap.size < w1.heap.size := by have := hb1.size; simp at this; omega
      have HB1 := Lib.hid hb1; clear hb1
      go_wp2_with fail
      go_ret
      exact ⟨rfl, (((Below.refl _ _).alloc (Nat.le_refl _) _).trans (HB1.out.mono (by simp))).alloc (by omega) _⟩
  · obtain rfl : r = true := by cases r <;> simp_all
    have q1 : (m == 0) = false := by simpa using h_m
    have q2 : (m != 0) = true := by simpa using h_m
    clear hr h_m
    have HB := Lib.hid (blank_1 t ok p0 p1 p2 l0 l1 l2 A n c m g u T)
    have eP := fun W => eq3_is (same3_refl p0 p1 p2) W
    have eL := fun W => eq3_is (same3_refl l0 l1 l2) W
    go_enter Tryz.func44, Tryz.ntmps44
    go_wp2_with fail
    refine (HB.out _).mono ?_
    rintro en w1 ⟨rfl, hb1⟩
    obtain ⟨k0, k1, k2, k3, k4, k5, k6, k7, k8, k9, k10, k11, k12, k13⟩ := Blk.cells14 (Blk.below (heap_alloc_new w _) hb1 (by simp) : Blk w1 w.heap.size 28 #[.int .i64 1, .int .i64 t, .bool ok, .int .i64 p0, .int .i64 p1, .int .i64 p2, .int .i64 l0, .int .i64 l1, .int .i64 l2, .slice A n c, .int .i64 m, .int .i64 g, .int .i64 u, .string T])
    have hl1 : w.heap.size < w1.heap.size := by have := hb1.size; simp at this; omega
    have HB1 := Lib.hid hb1; clear hb1
    go_wp2_with fail
    go_ret
    exact ⟨rfl, (((Below.refl _ _).alloc (Nat.le_refl _) _).trans (HB1.out.mono (by simp))).alloc (by omega) _⟩
end Go.Proofs.YteeekdffbcbamaaGreatDoor
