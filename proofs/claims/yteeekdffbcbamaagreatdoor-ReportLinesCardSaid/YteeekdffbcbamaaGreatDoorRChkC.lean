/-
  WALKS: the reference's Check of a sentence with fields that its kind does not have.
-/
import Derived.Test.YteeekdffbcbamaaGreatDoorRChkB
namespace Go.Proofs.YteeekdffbcbamaaGreatDoor
open Go.RowKit
set_option maxRecDepth 100000 in
set_option maxHeartbeats 4000000 in
theorem rcheck_extra1 (t : Int) (ok : Bool) (p0 p1 p2 l0 l1 l2 : Int) (A : Option Addr) (n c : Nat) (m g u : Int) (T : ByteArray) (w : World) (ht : Plain.inR t 0 604799999 = true) (hr : ¬ (m = 0 ∧ g = 0 ∧ u = 0 ∧ T.data.toList = [])) : Calls Tryz.prog 22 #[.agg #[.int .i64 1, .int .i64 t, .bool ok, .int .i64 p0, .int .i64 p1, .int .i64 p2, .int .i64 l0, .int .i64 l1, .int .i64 l2, .slice A n c, .int .i64 m, .int .i64 g, .int .i64 u, .string T]] w (CheckPost w 3) := by
  by_cases h_m : m = 0
  · subst h_m
    by_cases h_g : g = 0
    · subst h_g
      by_cases h_u : u = 0
      · subst h_u
        by_cases h_T : T.data.toList = []
        · exact absurd ⟨rfl, rfl, rfl, h_T⟩ hr
        · have q1 : ¬ T.toList = [] := by rw [ByteArray.toList_eq]; exact h_T
          have q2 : T.toList.isEmpty = false := by
            cases hl : T.toList with
            | nil => exact absurd hl q1
            | cons _ _ => rfl
          clear hr h_T
          have HT := Lib.hid (fun W => rwithin_any t 0 604799999 true W ht)
          clear ht
          go_enter Tryz.func22, Tryz.ntmps22
          go_wp2_with fail
          refine (HT.out _).mono ?_
          rintro en w1 ⟨rfl, rfl⟩
          go_wp2_with fail
          go_ret
          exact ⟨rfl, ((Below.refl _ _).alloc (Nat.le_refl _) _).alloc (by simp) _⟩
      · have q1 : (u == 0) = false := by simpa using h_u
        have q2 : (u != 0) = true := by simpa using h_u
        clear hr h_u
        have HT := Lib.hid (fun W => rwithin_any t 0 604799999 true W ht)
        clear ht
        go_enter Tryz.func22, Tryz.ntmps22
        go_wp2_with fail
        refine (HT.out _).mono ?_
        rintro en w1 ⟨rfl, rfl⟩
        go_wp2_with fail
        go_ret
        exact ⟨rfl, ((Below.refl _ _).alloc (Nat.le_refl _) _).alloc (by simp) _⟩
    · have q1 : (g == 0) = false := by simpa using h_g
      have q2 : (g != 0) = true := by simpa using h_g
      clear hr h_g
      have HT := Lib.hid (fun W => rwithin_any t 0 604799999 true W ht)
      clear ht
      go_enter Tryz.func22, Tryz.ntmps22
      go_wp2_with fail
      refine (HT.out _).mono ?_
      rintro en w1 ⟨rfl, rfl⟩
      go_wp2_with fail
      go_ret
      exact ⟨rfl, ((Below.refl _ _).alloc (Nat.le_refl _) _).alloc (by simp) _⟩
  · have q1 : (m == 0) = false := by simpa using h_m
    have q2 : (m != 0) = true := by simpa using h_m
    clear hr h_m
    have HT := Lib.hid (fun W => rwithin_any t 0 604799999 true W ht)
    clear ht
    go_enter Tryz.func22, Tryz.ntmps22
    go_wp2_with fail
    refine (HT.out _).mono ?_
    rintro en w1 ⟨rfl, rfl⟩
    go_wp2_with fail
    go_ret
    exact ⟨rfl, ((Below.refl _ _).alloc (Nat.le_refl _) _).alloc (by simp) _⟩
set_option maxRecDepth 100000 in
set_option maxHeartbeats 4000000 in
theorem rcheck_extra2 (t : Int) (ok : Bool) (p0 p1 p2 l0 l1 l2 : Int) (A : Option Addr) (n c : Nat) (m g u : Int) (T : ByteArray) (w : World) (ht : Plain.inR t 0 604799999 = true) (hr : ¬ ((p0 = 0 ∧ p1 = 0 ∧ p2 = 0) ∧ (l0 = 0 ∧ l1 = 0 ∧ l2 = 0) ∧ n = 0 ∧ T.data.toList = [])) : Calls Tryz.prog 22 #[.agg #[.int .i64 2, .int .i64 t, .bool ok, .int .i64 p0, .int .i64 p1, .int .i64 p2, .int .i64 l0, .int .i64 l1, .int .i64 l2, .slice A n c, .int .i64 m, .int .i64 g, .int .i64 u, .string T]] w (CheckPost w 3) := by
  by_cases h_P : (p0 = 0 ∧ p1 = 0 ∧ p2 = 0)
  · obtain ⟨rfl, rfl, rfl⟩ := h_P
    by_cases h_L : (l0 = 0 ∧ l1 = 0 ∧ l2 = 0)
    · obtain ⟨rfl, rfl, rfl⟩ := h_L
      by_cases h_n : n = 0
      · subst h_n
        by_cases h_T : T.data.toList = []
        · exact absurd ⟨⟨rfl, rfl, rfl⟩, ⟨rfl, rfl, rfl⟩, rfl, h_T⟩ hr
        · have e_P := fun W => eq3_is (same3_refl 0 0 0) W
          have e_L := fun W => eq3_is (same3_refl 0 0 0) W
          have q1 : ¬ T.toList = [] := by rw [ByteArray.toList_eq]; exact h_T
          have q2 : T.toList.isEmpty = false := by
            cases hl : T.toList with
            | nil => exact absurd hl q1
            | cons _ _ => rfl
          clear hr h_T
          have HT := Lib.hid (fun W => rwithin_any t 0 604799999 true W ht)
          clear ht
          go_enter Tryz.func22, Tryz.ntmps22
          go_wp2_with fail
          refine (HT.out _).mono ?_
          rintro en w1 ⟨rfl, rfl⟩
          go_wp2_with fail
          go_ret
          exact ⟨rfl, ((Below.refl _ _).alloc (Nat.le_refl _) _).alloc (by simp) _⟩
      · have e_P := fun W => eq3_is (same3_refl 0 0 0) W
        have e_L := fun W => eq3_is (same3_refl 0 0 0) W
        have q1 : ((n : Int) == 0) = false := by simpa using h_n
        have q2 : ((n : Int) != 0) = true := by simpa using h_n
        clear hr h_n
        have HT := Lib.hid (fun W => rwithin_any t 0 604799999 true W ht)
        clear ht
        go_enter Tryz.func22, Tryz.ntmps22
        go_wp2_with fail
        refine (HT.out _).mono ?_
        rintro en w1 ⟨rfl, rfl⟩
        go_wp2_with fail
        go_ret
        exact ⟨rfl, ((Below.refl _ _).alloc (Nat.le_refl _) _).alloc (by simp) _⟩
    · have e_P := fun W => eq3_is (same3_refl 0 0 0) W
      have e_L := fun W => eq3_is (show same3 l0 l1 l2 0 0 0 = false by cases hb : same3 l0 l1 l2 0 0 0 with | false => rfl | true => exact absurd (by simpa [same3] using hb) h_L) W
      clear hr h_L
      have HT := Lib.hid (fun W => rwithin_any t 0 604799999 true W ht)
      clear ht
      go_enter Tryz.func22, Tryz.ntmps22
      go_wp2_with fail
      refine (HT.out _).mono ?_
      rintro en w1 ⟨rfl, rfl⟩
      go_wp2_with fail
      go_ret
      exact ⟨rfl, ((Below.refl _ _).alloc (Nat.le_refl _) _).alloc (by simp) _⟩
  · have e_P := fun W => eq3_is (show same3 p0 p1 p2 0 0 0 = false by cases hb : same3 p0 p1 p2 0 0 0 with | false => rfl | true => exact absurd (by simpa [same3] using hb) h_P) W
    clear hr h_P
    have HT := Lib.hid (fun W => rwithin_any t 0 604799999 true W ht)
    clear ht
    go_enter Tryz.func22, Tryz.ntmps22
    go_wp2_with fail
    refine (HT.out _).mono ?_
    rintro en w1 ⟨rfl, rfl⟩
    go_wp2_with fail
    go_ret
    exact ⟨rfl, ((Below.refl _ _).alloc (Nat.le_refl _) _).alloc (by simp) _⟩
set_option maxRecDepth 100000 in
set_option maxHeartbeats 4000000 in
theorem rcheck_extra3 (t : Int) (ok : Bool) (p0 p1 p2 l0 l1 l2 : Int) (A : Option Addr) (n c : Nat) (m g u : Int) (T : ByteArray) (w : World) (ht : Plain.inR t 0 604799999 = true) (hr : ¬ ((p0 = 0 ∧ p1 = 0 ∧ p2 = 0) ∧ (l0 = 0 ∧ l1 = 0 ∧ l2 = 0) ∧ n = 0 ∧ m = 0 ∧ g = 0 ∧ u = 0 ∧ ok = false)) : Calls Tryz.prog 22 #[.agg #[.int .i64 3, .int .i64 t, .bool ok, .int .i64 p0, .int .i64 p1, .int .i64 p2, .int .i64 l0, .int .i64 l1, .int .i64 l2, .slice A n c, .int .i64 m, .int .i64 g, .int .i64 u, .string T]] w (CheckPost w 3) := by
  by_cases h_P : (p0 = 0 ∧ p1 = 0 ∧ p2 = 0)
  · obtain ⟨rfl, rfl, rfl⟩ := h_P
    by_cases h_L : (l0 = 0 ∧ l1 = 0 ∧ l2 = 0)
    · obtain ⟨rfl, rfl, rfl⟩ := h_L
      by_cases h_n : n = 0
      · subst h_n
        by_cases h_m : m = 0
        · subst h_m
          by_cases h_g : g = 0
          · subst h_g
            by_cases h_u : u = 0
            · subst h_u
              by_cases h_ok : ok = false
              · exact absurd ⟨⟨rfl, rfl, rfl⟩, ⟨rfl, rfl, rfl⟩, rfl, rfl, rfl, rfl, h_ok⟩ hr
              · have e_P := fun W => eq3_is (same3_refl 0 0 0) W
                have e_L := fun W => eq3_is (same3_refl 0 0 0) W
                obtain rfl : ok = true := by simpa using h_ok
                clear hr
                have HT := Lib.hid (fun W => rwithin_any t 0 604799999 true W ht)
                clear ht
                go_enter Tryz.func22, Tryz.ntmps22
                go_wp2_with fail
                refine (HT.out _).mono ?_
                rintro en w1 ⟨rfl, rfl⟩
                go_wp2_with fail
                go_ret
                exact ⟨rfl, ((Below.refl _ _).alloc (Nat.le_refl _) _).alloc (by simp) _⟩
            · have e_P := fun W => eq3_is (same3_refl 0 0 0) W
              have e_L := fun W => eq3_is (same3_refl 0 0 0) W
              have q1 : (u == 0) = false := by simpa using h_u
              have q2 : (u != 0) = true := by simpa using h_u
              clear hr h_u
              have HT := Lib.hid (fun W => rwithin_any t 0 604799999 true W ht)
              clear ht
              go_enter Tryz.func22, Tryz.ntmps22
              go_wp2_with fail
              refine (HT.out _).mono ?_
              rintro en w1 ⟨rfl, rfl⟩
              go_wp2_with fail
              go_ret
              exact ⟨rfl, ((Below.refl _ _).alloc (Nat.le_refl _) _).alloc (by simp) _⟩
          · have e_P := fun W => eq3_is (same3_refl 0 0 0) W
            have e_L := fun W => eq3_is (same3_refl 0 0 0) W
            have q1 : (g == 0) = false := by simpa using h_g
            have q2 : (g != 0) = true := by simpa using h_g
            clear hr h_g
            have HT := Lib.hid (fun W => rwithin_any t 0 604799999 true W ht)
            clear ht
            go_enter Tryz.func22, Tryz.ntmps22
            go_wp2_with fail
            refine (HT.out _).mono ?_
            rintro en w1 ⟨rfl, rfl⟩
            go_wp2_with fail
            go_ret
            exact ⟨rfl, ((Below.refl _ _).alloc (Nat.le_refl _) _).alloc (by simp) _⟩
        · have e_P := fun W => eq3_is (same3_refl 0 0 0) W
          have e_L := fun W => eq3_is (same3_refl 0 0 0) W
          have q1 : (m == 0) = false := by simpa using h_m
          have q2 : (m != 0) = true := by simpa using h_m
          clear hr h_m
          have HT := Lib.hid (fun W => rwithin_any t 0 604799999 true W ht)
          clear ht
          go_enter Tryz.func22, Tryz.ntmps22
          go_wp2_with fail
          refine (HT.out _).mono ?_
          rintro en w1 ⟨rfl, rfl⟩
          go_wp2_with fail
          go_ret
          exact ⟨rfl, ((Below.refl _ _).alloc (Nat.le_refl _) _).alloc (by simp) _⟩
      · have e_P := fun W => eq3_is (same3_refl 0 0 0) W
        have e_L := fun W => eq3_is (same3_refl 0 0 0) W
        have q1 : ((n : Int) == 0) = false := by simpa using h_n
        have q2 : ((n : Int) != 0) = true := by simpa using h_n
        clear hr h_n
        have HT := Lib.hid (fun W => rwithin_any t 0 604799999 true W ht)
        clear ht
        go_enter Tryz.func22, Tryz.ntmps22
        go_wp2_with fail
        refine (HT.out _).mono ?_
        rintro en w1 ⟨rfl, rfl⟩
        go_wp2_with fail
        go_ret
        exact ⟨rfl, ((Below.refl _ _).alloc (Nat.le_refl _) _).alloc (by simp) _⟩
    · have e_P := fun W => eq3_is (same3_refl 0 0 0) W
      have e_L := fun W => eq3_is (show same3 l0 l1 l2 0 0 0 = false by cases hb : same3 l0 l1 l2 0 0 0 with | false => rfl | true => exact absurd (by simpa [same3] using hb) h_L) W
      clear hr h_L
      have HT := Lib.hid (fun W => rwithin_any t 0 604799999 true W ht)
      clear ht
      go_enter Tryz.func22, Tryz.ntmps22
      go_wp2_with fail
      refine (HT.out _).mono ?_
      rintro en w1 ⟨rfl, rfl⟩
      go_wp2_with fail
      go_ret
      exact ⟨rfl, ((Below.refl _ _).alloc (Nat.le_refl _) _).alloc (by simp) _⟩
  · have e_P := fun W => eq3_is (show same3 p0 p1 p2 0 0 0 = false by cases hb : same3 p0 p1 p2 0 0 0 with | false => rfl | true => exact absurd (by simpa [same3] using hb) h_P) W
    clear hr h_P
    have HT := Lib.hid (fun W => rwithin_any t 0 604799999 true W ht)
    clear ht
    go_enter Tryz.func22, Tryz.ntmps22
    go_wp2_with fail
    refine (HT.out _).mono ?_
    rintro en w1 ⟨rfl, rfl⟩
    go_wp2_with fail
    go_ret
    exact ⟨rfl, ((Below.refl _ _).alloc (Nat.le_refl _) _).alloc (by simp) _⟩
end Go.Proofs.YteeekdffbcbamaaGreatDoor
