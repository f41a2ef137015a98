/-
  WALKS: pick; SpansBack returns true.
-/
import Derived.Test.YtacglimhkpfanaaKnownWalk
import Derived.Test.YtacglimhkpfanaaPlainD
namespace Go.Proofs.Ytacglimhkpfanaa
open Go.RowKit

theorem pick_any (x n : Int) (w : World) (hn : 1 ≤ n) (hn2 : n ≤ 1000000000000) : Calls Try.prog 26 #[.int .i64 x, .int .i64 n] w fun e w' => e = .returned (.int .i64 (x % n)) ∧ w = w' := by
  by_cases hx : 0 ≤ x
  · have r1 := Int.emod_nonneg x (b := n) (by omega)
    have r2 := Int.emod_lt_of_pos x (b := n) (by omega)
    go_enter Try.func26, Try.ntmps26
    go_wp2_with fail
    go_ret
    exact ⟨rfl, rfl⟩
  · obtain ⟨r1, r2, r3, r4⟩ := Plain.tmod_neg x n (by omega) hn
    by_cases hl : x.tmod n < 0
    · have H := Lib.hid (r3 hl)
      clear r3 r4
      go_enter Try.func26, Try.ntmps26
      go_wp2_with fail
      go_ret
      exact ⟨by rw [H.out]; rfl, rfl⟩
    · have H := Lib.hid (r4 hl)
      clear r3 r4
      go_enter Try.func26, Try.ntmps26
      go_wp2_with fail
      go_ret
      exact ⟨by rw [H.out]; rfl, rfl⟩
theorem pick_is (x n r : Int) (h : x % n = r) (w : World) (hn : 1 ≤ n) (hn2 : n ≤ 1000000000000) : Calls Try.prog 26 #[.int .i64 x, .int .i64 n] w fun e w' => e = .returned (.int .i64 r) ∧ w = w' := by
  rw [← h]; exact pick_any x n w hn hn2

set_option maxHeartbeats 1000000 in
theorem spansBack_walk (a0 a1 a2 : Int) (w : World) : Calls Try.prog 7 #[.int .i64 a0, .int .i64 a1, .int .i64 a2] w fun e w' => e = .returned (.bool true) ∧ Below w.heap.size w w' := by
  obtain ⟨r0, h0⟩ : ∃ r, a0 % 9 = r := ⟨_, rfl⟩
  obtain ⟨r1, h1⟩ : ∃ r, a1 % 20 = r := ⟨_, rfl⟩
  obtain ⟨r2, h2⟩ : ∃ r, a2 % 604800000 = r := ⟨_, rfl⟩
  have P0 := Lib.hid (fun W => pick_is a0 9 r0 h0 W (by decide) (by decide))
  have P1 := Lib.hid (fun W => pick_is a1 20 r1 h1 W (by decide) (by decide))
  have P2 := Lib.hid (fun W => pick_is a2 604800000 r2 h2 W (by decide) (by decide))
  have b0 : 0 ≤ r0 ∧ r0 < 9 := by omega
  have b1 : 0 ≤ r1 ∧ r1 < 20 := by omega
  have b2 : 0 ≤ r2 ∧ r2 < 604800000 := by omega
  obtain ⟨b01, b02⟩ := b0
  obtain ⟨b11, b12⟩ := b1
  obtain ⟨b21, b22⟩ := b2
  clear h0 h1 h2
  obtain ⟨k1, k2, k3⟩ := Plain.back (2 + r0) (1 + r1) r2 (by omega) (by omega) (by omega) (by omega) b21 b22
  obtain ⟨x, hx⟩ : ∃ z, Plain.plF (2 + r0) (1 + r1) r2 = z := ⟨_, rfl⟩
  obtain ⟨y, hy⟩ : ∃ z, Plain.plB (2 + r0) (1 + r1) r2 = z := ⟨_, rfl⟩
  obtain ⟨z, hz⟩ : ∃ z, Plain.plP (2 + r0) (1 + r1) r2 = z := ⟨_, rfl⟩
  have HP := Lib.hid (fun W => place17_is (2 + r0) (1 + r1) r2 x y z 0 hx hy hz k1 W)
  rw [hx, hy, hz] at k2 k3
  have HT := Lib.hid (fun W => time15_is (2 + r0) (1 + r1) x y z r2 0 k3 k2 W)
  clear hx hy hz k1 k2 k3
  have q : (r2 == r2) = true := beq_iff_eq.2 rfl
  go_enter Try.func7, Try.ntmps7
  go_wp2_with fail
  refine (spansKnown_walk _).mono ?_
  rintro e w1 ⟨rfl, hb1⟩
  have B1 := Lib.hid hb1; clear hb1
  go_wp2_with fail
  refine (P0.out _).mono ?_
  rintro e w2 ⟨rfl, rfl⟩
  go_wp2_with fail
  refine (P1.out _).mono ?_
  rintro e w2 ⟨rfl, rfl⟩
  go_wp2_with fail
  refine (P2.out _).mono ?_
  rintro e w2 ⟨rfl, rfl⟩
  go_wp2_with fail
  refine (HP.out _).mono ?_
  rintro e w2 ⟨rfl, hb2⟩
  have B2 := Lib.hid (B1.out.trans (hb2.mono B1.out.size)); clear hb2
  go_wp2_with fail
  refine (HT.out _).mono ?_
  rintro e w3 ⟨rfl, rfl⟩
  go_wp2_with fail
  go_ret
  exact ⟨rfl, B2.out⟩
end Go.Proofs.Ytacglimhkpfanaa
