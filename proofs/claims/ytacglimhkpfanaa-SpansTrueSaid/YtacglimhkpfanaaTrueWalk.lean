/-
  WALK: SpansTrue returns true.
-/
import Derived.Test.YtacglimhkpfanaaBackWalk
namespace Go.Proofs.Ytacglimhkpfanaa
open Go.RowKit

set_option maxHeartbeats 2000000 in
theorem spansTrue_walk (a0 a1 a2 a3 a4 : Int) (w : World) : Calls Try.prog 9 #[.int .i64 a0, .int .i64 a1, .int .i64 a2, .int .i64 a3, .int .i64 a4] w fun e w' => e = .returned (.bool true) ∧ Below w.heap.size w w' := by
  obtain ⟨r0, h0⟩ : ∃ r, a0 % 8192 = r := ⟨_, rfl⟩
  obtain ⟨r1, h1⟩ : ∃ r, a1 % 8 = r := ⟨_, rfl⟩
  obtain ⟨r3, h3⟩ : ∃ r, a3 % 1000000 = r := ⟨_, rfl⟩
  obtain ⟨d, h2⟩ : ∃ r, a2 % 100000000001 = r := ⟨_, rfl⟩
  have b0 : 0 ≤ r0 ∧ r0 < 8192 := by omega
  have b1 : 0 ≤ r1 ∧ r1 < 8 := by omega
  have b2 : 0 ≤ d ∧ d < 100000000001 := by omega
  have b3 : 0 ≤ r3 ∧ r3 < 1000000 := by omega
  obtain ⟨r4, h4⟩ : ∃ r, a4 % (2 * (1 + r1) - 1) = r := ⟨_, rfl⟩
  have b4 : 0 ≤ r4 ∧ r4 < 2 * (1 + r1) - 1 := by
    rw [← h4]
    exact ⟨Int.emod_nonneg _ (by omega), Int.emod_lt_of_pos _ (by omega)⟩
  have P0 := Lib.hid (fun W => pick_is a0 8192 r0 h0 W (by decide) (by decide))
  have P1 := Lib.hid (fun W => pick_is a1 8 r1 h1 W (by decide) (by decide))
  have P2 := Lib.hid (fun W => pick_is a2 100000000001 d h2 W (by decide) (by decide))
  have P3 := Lib.hid (fun W => pick_is a3 1000000 r3 h3 W (by decide) (by decide))
  have P4 := Lib.hid (fun W => pick_is a4 (2 * (1 + r1) - 1) r4 h4 W (by omega) (by omega))
  clear h0 h1 h2 h3 h4
  obtain ⟨b01, b02⟩ := b0
  obtain ⟨b11, b12⟩ := b1
  obtain ⟨b21, b22⟩ := b2
  obtain ⟨b31, b32⟩ := b3
  obtain ⟨b41, b42⟩ := b4
  obtain ⟨k1, k2, k3, k4, k5, k6, k7, k8, m1, m2, m3, m4, m5, m6⟩ := Plain.true_ok (1 + r0) (1 + r1) d (100 + r3) (r4 - (1 + r1 - 1)) (by omega) (by omega) (by omega) (by omega) (by omega) (by omega) (by omega) (by omega) (by omega) (by omega)
  obtain ⟨x, hx⟩ : ∃ z, Plain.near (299792458 * Plain.trueN (1 + r0) d (r4 - (1 + r1 - 1))) (1 + r0) = z := ⟨_, rfl⟩
  obtain ⟨b, hb⟩ : ∃ z, Plain.bnd (1 + r0) (1 + r1) = z := ⟨_, rfl⟩
  rw [hx] at k6 k7 k8
  rw [hb] at k2 k3 k4 k7 k8
  have HB := Lib.hid (fun W => bound12_is (1 + r0) (1 + r1) b 0 k2 k1 W)
  have HL := Lib.hid (fun W => length_is (1 + r0) (100 + r3 - 100) 3 _ (100 + r3) x 0 k6 k5 W)
  clear k1 k2 k5 k6 hx hb
  go_enter Try.func9, Try.ntmps9
  go_wp2_with fail
  refine (spansKnown_walk _).mono ?_
  rintro e w1 ⟨rfl, hb1⟩
  have B1 := Lib.hid hb1; clear hb1
  go_wp2_with fail
  refine (P0.out _).mono ?_
  rintro e w2 ⟨rfl, rfl⟩
  go_wp2_with fail
  refine (P1.out _).mono ?_
  rintro e w2 ⟨rfl, rfl⟩
  go_wp2_with fail
  refine (P3.out _).mono ?_
  rintro e w2 ⟨rfl, rfl⟩
  go_wp2_with fail
  refine (P2.out _).mono ?_
  rintro e w2 ⟨rfl, rfl⟩
  go_wp2_with fail
  refine (P4.out _).mono ?_
  rintro e w2 ⟨rfl, rfl⟩
  go_wp2_with fail
  refine (HB.out _).mono ?_
  rintro e w2 ⟨rfl, rfl⟩
  go_wp2_with fail
  refine (HL.out _).mono ?_
  rintro e w2 ⟨rfl, hb2⟩
  have B2 := Lib.hid (B1.out.trans (hb2.mono B1.out.size)); clear hb2
  go_wp2_with fail
  go_ret
  exact ⟨rfl, B2.out⟩
end Go.Proofs.Ytacglimhkpfanaa
