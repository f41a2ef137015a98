/-
  WALK: SpansShifts returns true.
-/
import Derived.Test.YtacglimhkpfanaaBackWalk
namespace Go.Proofs.Ytacglimhkpfanaa
open Go.RowKit

set_option maxHeartbeats 2000000 in
theorem spansShifts_walk (a0 a1 a2 a3 a4 : Int) (w : World) : Calls Try.prog 8 #[.int .i64 a0, .int .i64 a1, .int .i64 a2, .int .i64 a3, .int .i64 a4] w fun e w' => e = .returned (.bool true) ∧ Below w.heap.size w w' := by
  obtain ⟨r0, h0⟩ : ∃ r, a0 % 8192 = r := ⟨_, rfl⟩
  obtain ⟨r2, h2⟩ : ∃ r, a2 % 1000000 = r := ⟨_, rfl⟩
  obtain ⟨r4, h4⟩ : ∃ r, a4 % 1000 = r := ⟨_, rfl⟩
  obtain ⟨r3, h3⟩ : ∃ r, a3 % 20000 = r := ⟨_, rfl⟩
  have b0 : 0 ≤ r0 ∧ r0 < 8192 := by omega
  have b2 : 0 ≤ r2 ∧ r2 < 1000000 := by omega
  have b3 : 0 ≤ r3 ∧ r3 < 20000 := by omega
  have b4 : 0 ≤ r4 ∧ r4 < 1000 := by omega
  obtain ⟨r1, h1⟩ : ∃ r, a1 % (10 * (1 + r0)) = r := ⟨_, rfl⟩
  have b1 : 0 ≤ r1 ∧ r1 < 10 * (1 + r0) := by
    rw [← h1]
    exact ⟨Int.emod_nonneg _ (by omega), Int.emod_lt_of_pos _ (by omega)⟩
  have P0 := Lib.hid (fun W => pick_is a0 8192 r0 h0 W (by decide) (by decide))
  have P1 := Lib.hid (fun W => pick_is a1 (10 * (1 + r0)) r1 h1 W (by omega) (by omega))
  have P2 := Lib.hid (fun W => pick_is a2 1000000 r2 h2 W (by decide) (by decide))
  have P3 := Lib.hid (fun W => pick_is a3 20000 r3 h3 W (by decide) (by decide))
  have P4 := Lib.hid (fun W => pick_is a4 1000 r4 h4 W (by decide) (by decide))
  clear h0 h1 h2 h3 h4
  obtain ⟨b01, b02⟩ := b0
  obtain ⟨b11, b12⟩ := b1
  obtain ⟨b21, b22⟩ := b2
  obtain ⟨b31, b32⟩ := b3
  obtain ⟨b41, b42⟩ := b4
  obtain ⟨⟨x1, x2, x3, x4⟩, ⟨y1, y2⟩, ⟨z1, z2, z3, z4⟩⟩ := Plain.shifts_ok (1 + r0) (r2 + r3 - 10000) r1 r2 r4 (by omega) (by omega) b21 b22 b11 b12 b41 b42 (by omega) (by omega)
  have hs := Plain.shifts (1 + r0) (r2 + r3 - 10000) r1 r2 (by omega) (by omega)
  obtain ⟨x, hx⟩ : ∃ z, Plain.lenZ (1 + r0) (r2 + r3 - 10000) r1 r2 = z := ⟨_, rfl⟩
  obtain ⟨z, hz⟩ : ∃ z, Plain.lenZ (1 + r0) (r2 + r3 - 10000 + 1) r1 r2 = z := ⟨_, rfl⟩
  rw [hx] at x2 x3 x4 y2 hs
  rw [hz] at z2 z3 z4 hs
  have H1 := Lib.hid (fun W => length_is (1 + r0) (r2 + r3 - 10000) 7 r1 r2 x 0 x2 x1 W)
  have H2 := Lib.hid (fun W => length_is (1 + r0) (r2 + r3 - 10000) 7 (r1 + r4 * (1 + r0)) (r2 + r4) x 0 y2 y1 W)
  have H3 := Lib.hid (fun W => length_is (1 + r0) (r2 + r3 - 10000 + 1) 7 r1 r2 z 0 z2 z1 W)
  have hm := Plain.mul_bd r4 (1 + r0) 1000 (by omega) (by omega) (by omega)
  have hm0 : 0 ≤ r4 * (1 + r0) := Int.mul_nonneg b41 (by omega)
  have hm1 : r4 * (1 + r0) ≤ 8192000 := by omega
  clear x1 x2 y1 y2 z1 z2 hx hz hm
  have q : (x == x) = true := beq_iff_eq.2 rfl
  have hq : (z - x == 299792458) = true ∨ ((z - x == 299792458) = false ∧ x < 0 ∧ 0 < z ∧ 299792457 ≤ z - x ∧ z - x ≤ 299792459) := by
    by_cases he : z - x = 299792458
    · exact Or.inl (beq_iff_eq.2 he)
    · rcases hs with h | ⟨h1, h2, h3, h4⟩
      · exact absurd h he
      · exact Or.inr ⟨beq_eq_false_iff_ne.2 he, h1, h2, h3, h4⟩
  clear hs
  go_enter Try.func8, Try.ntmps8
  go_wp2_with fail
  refine (spansKnown_walk _).mono ?_
  rintro e w1 ⟨rfl, hb1⟩
  have B1 := Lib.hid hb1; clear hb1
  go_wp2_with fail
  refine (P0.out _).mono ?_
  rintro e w2 ⟨rfl, rfl⟩
  go_wp2_with fail
  refine (P2.out _).mono ?_
  rintro e w2 ⟨rfl, rfl⟩
  go_wp2_with fail
  refine (P4.out _).mono ?_
  rintro e w2 ⟨rfl, rfl⟩
  go_wp2_with fail
  refine (P1.out _).mono ?_
  rintro e w2 ⟨rfl, rfl⟩
  go_wp2_with fail
  refine (P3.out _).mono ?_
  rintro e w2 ⟨rfl, rfl⟩
  go_wp2_with fail
  refine (H1.out _).mono ?_
  rintro e w2 ⟨rfl, hb2⟩
  have B2 := Lib.hid (B1.out.trans (hb2.mono B1.out.size)); clear hb2
  go_wp2_with fail
  refine (H2.out _).mono ?_
  rintro e w3 ⟨rfl, hb3⟩
  have B3 := Lib.hid (B2.out.trans (hb3.mono B2.out.size)); clear hb3
  go_wp2_with fail
  refine (H3.out _).mono ?_
  rintro e w4 ⟨rfl, hb4⟩
  have B4 := Lib.hid (B3.out.trans (hb4.mono B3.out.size)); clear hb4
  rcases hq with hq | ⟨hq, h1, h2, h3, h4⟩
  all_goals
    go_wp2_with fail
    go_ret
    exact ⟨rfl, B4.out⟩
end Go.Proofs.Ytacglimhkpfanaa
