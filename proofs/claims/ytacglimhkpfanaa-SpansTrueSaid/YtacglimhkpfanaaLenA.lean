/-
  WALKS: spans.Length.
-/
import Derived.Test.YtacglimhkpfanaaLen
namespace Go.Proofs.Ytacglimhkpfanaa
open Go.RowKit

/-- What the walk leaves behind a call that boxes structs. -/
theorem below1 (w : World) (o : Obj) : Below w.heap.size w (w.alloc o) := (Below.refl _ _).alloc (Nat.le_refl _) _

theorem below_drewN {B : Nat} {a w : World} (h : Below B a w) (n : Nat) : Below B a (w.drewN n) := ⟨h.os, h.tape, h.output, h.size, h.block⟩

theorem period_is (l : Int) (b : Bool) (h : Plain.perB l = b) (w : World) : Calls Try.prog 27 #[.int .i64 l] w fun e w' => e = .returned (.bool b) ∧ w = w' := by
  rw [← h]; exact period_any l w
theorem nearest_is (n d z : Int) (hz : Plain.near n d = z) (w : World) (h0 : -1000000000000000000 ≤ n) (h1 : n ≤ 1000000000000000000) (hd : 1 ≤ d) (hd2 : d ≤ 1000000000) :
    Calls Try.prog 29 #[.int .i64 n, .int .i64 d] w fun e w' => e = .returned (.int .i64 z) ∧ w = w' := by
  rw [← hz]; exact nearest_any n d w h0 h1 hd hd2
theorem channel_is (p a m : Int) (b : Bool) (h : Plain.chB p a m = b) (w : World) : Calls Try.prog 28 #[.agg #[.int .i64 p, .int .i64 a, .int .i64 m]] w fun e w' =>
    e = .returned (.bool b) ∧ w.alloc (.cells #[.int .i64 p, .int .i64 a, .int .i64 m] 23) = w' := by
  rw [← h]; exact channel_any p a m w

theorem length_a1 (l rx p a m : Int) (w : World) (h : Plain.perB l = false) :
    Calls Try.prog 10 #[.int .i64 l, .int .i64 rx, .agg #[.int .i64 p, .int .i64 a, .int .i64 m]] w fun e w' => e = .returned (.tuple #[.int .i64 0, .int .i64 2]) ∧ Below w.heap.size w w' := by
  have H := Lib.hid h; clear h
  go_enter Try.func10, Try.ntmps10
  go_wp2_with (go_at_call 27; refine (period_is l false H.out _).mono ?_; rintro e w' ⟨rfl, rfl⟩)
  go_ret2
  exact ⟨rfl, below1 _ _⟩
theorem length_a2 (l rx p a m : Int) (w : World) (h : Plain.perB l = true) (h1 : rx < -604800000) :
    Calls Try.prog 10 #[.int .i64 l, .int .i64 rx, .agg #[.int .i64 p, .int .i64 a, .int .i64 m]] w fun e w' => e = .returned (.tuple #[.int .i64 0, .int .i64 2]) ∧ Below w.heap.size w w' := by
  have H := Lib.hid h; clear h
  go_enter Try.func10, Try.ntmps10
  go_wp2_with (go_at_call 27; refine (period_is l true H.out _).mono ?_; rintro e w' ⟨rfl, rfl⟩)
  go_ret2
  exact ⟨rfl, below1 _ _⟩
theorem length_a3 (l rx p a m : Int) (w : World) (h : Plain.perB l = true) (h0 : -604800000 ≤ rx) (h1 : 1209600000 < rx) :
    Calls Try.prog 10 #[.int .i64 l, .int .i64 rx, .agg #[.int .i64 p, .int .i64 a, .int .i64 m]] w fun e w' => e = .returned (.tuple #[.int .i64 0, .int .i64 2]) ∧ Below w.heap.size w w' := by
  have H := Lib.hid h; clear h
  go_enter Try.func10, Try.ntmps10
  go_wp2_with (go_at_call 27; refine (period_is l true H.out _).mono ?_; rintro e w' ⟨rfl, rfl⟩)
  go_ret2
  exact ⟨rfl, below1 _ _⟩
theorem length_a4 (l rx p a m : Int) (w : World) (h : Plain.perB l = true) (h0 : -604800000 ≤ rx) (h1 : rx ≤ 1209600000) (hc : Plain.chB p a m = false) :
    Calls Try.prog 10 #[.int .i64 l, .int .i64 rx, .agg #[.int .i64 p, .int .i64 a, .int .i64 m]] w fun e w' => e = .returned (.tuple #[.int .i64 0, .int .i64 2]) ∧ Below w.heap.size w w' := by
  have H := Lib.hid h; clear h
  have HC := Lib.hid hc; clear hc
  go_enter Try.func10, Try.ntmps10
  go_wp2_with (first | (go_at_call 27; refine (period_is l true H.out _).mono ?_; rintro e w' ⟨rfl, rfl⟩) | (go_at_call 28; refine (channel_is p a m false HC.out _).mono ?_; rintro e w' ⟨rfl, rfl⟩))
  go_ret2
  exact ⟨rfl, (below1 _ _).alloc (by simp) _⟩

section
variable (l rx p a m : Int) (w : World) (h : Plain.perB l = true) (h0 : -604800000 ≤ rx) (h1 : rx ≤ 1209600000) (hc : Plain.chB p a m = true)
    (hl : 1 ≤ l) (hl2 : l ≤ 8192) (ha : 0 ≤ a) (ha2 : a ≤ 1099511627776) (hm : 0 ≤ m) (hm2 : m < 604800000)
include h h0 h1 hc hl hl2 ha ha2 hm hm2
theorem length_b1 (hq : 0 ≤ a / l) (hq2 : a / l ≤ 1099511627776) (hbig : 40000 < rx - m + a / l) :
    Calls Try.prog 10 #[.int .i64 l, .int .i64 rx, .agg #[.int .i64 p, .int .i64 a, .int .i64 m]] w fun e w' => e = .returned (.tuple #[.int .i64 0, .int .i64 5]) ∧ Below w.heap.size w w' := by
  have H := Lib.hid h; clear h
  have HC := Lib.hid hc; clear hc
  go_enter Try.func10, Try.ntmps10
  go_wp2_with (first | (go_at_call 27; refine (period_is l true H.out _).mono ?_; rintro e w' ⟨rfl, rfl⟩) | (go_at_call 28; refine (channel_is p a m true HC.out _).mono ?_; rintro e w' ⟨rfl, rfl⟩))
  go_quiet (fail)
  go_wp2_with fail
  go_ret2
  exact ⟨rfl, below_drewN ((below1 _ _).alloc (by simp) _) _⟩
theorem length_b2 (hq : 0 ≤ a / l) (hq2 : a / l ≤ 1099511627776) (hbig : rx - m + a / l < -40000) :
    Calls Try.prog 10 #[.int .i64 l, .int .i64 rx, .agg #[.int .i64 p, .int .i64 a, .int .i64 m]] w fun e w' => e = .returned (.tuple #[.int .i64 0, .int .i64 5]) ∧ Below w.heap.size w w' := by
  have H := Lib.hid h; clear h
  have HC := Lib.hid hc; clear hc
  go_enter Try.func10, Try.ntmps10
  go_wp2_with (first | (go_at_call 27; refine (period_is l true H.out _).mono ?_; rintro e w' ⟨rfl, rfl⟩) | (go_at_call 28; refine (channel_is p a m true HC.out _).mono ?_; rintro e w' ⟨rfl, rfl⟩))
  go_quiet (fail)
  go_wp2_with fail
  go_ret2
  exact ⟨rfl, below_drewN ((below1 _ _).alloc (by simp) _) _⟩
variable (hw1 : rx - m + a / l ≤ 40000) (hw2 : -40000 ≤ rx - m + a / l) (hr : 0 ≤ a % l) (hr2 : a % l ≤ 8191)
    (hp1 : (rx - m + a / l) * l ≤ 327680000) (hp2 : -327680000 ≤ (rx - m + a / l) * l) (z : Int) (hz : Plain.near (299792458 * ((rx - m + a / l) * l + a % l)) l = z)
include hw1 hw2 hr hr2 hp1 hp2 hz
theorem length_c1 (hbig : 10000000000000 < z) :
    Calls Try.prog 10 #[.int .i64 l, .int .i64 rx, .agg #[.int .i64 p, .int .i64 a, .int .i64 m]] w fun e w' => e = .returned (.tuple #[.int .i64 0, .int .i64 5]) ∧ Below w.heap.size w w' := by
  have H := Lib.hid h; clear h
  have HC := Lib.hid hc; clear hc
  have HZ := Lib.hid hz; clear hz
  go_enter Try.func10, Try.ntmps10
  go_wp2_with (first | (go_at_call 27; refine (period_is l true H.out _).mono ?_; rintro e w' ⟨rfl, rfl⟩) | (go_at_call 28; refine (channel_is p a m true HC.out _).mono ?_; rintro e w' ⟨rfl, rfl⟩))
  go_quiet (fail)
  go_wp2_with (go_at_call 29; refine (nearest_is _ l z HZ.out _ (by omega) (by omega) hl (by omega)).mono ?_; rintro e w' ⟨rfl, rfl⟩)
  go_ret2
  exact ⟨rfl, below_drewN ((below1 _ _).alloc (by simp) _) _⟩
theorem length_c2 (hbig : z < -10000000000000) :
    Calls Try.prog 10 #[.int .i64 l, .int .i64 rx, .agg #[.int .i64 p, .int .i64 a, .int .i64 m]] w fun e w' => e = .returned (.tuple #[.int .i64 0, .int .i64 5]) ∧ Below w.heap.size w w' := by
  have H := Lib.hid h; clear h
  have HC := Lib.hid hc; clear hc
  have HZ := Lib.hid hz; clear hz
  go_enter Try.func10, Try.ntmps10
  go_wp2_with (first | (go_at_call 27; refine (period_is l true H.out _).mono ?_; rintro e w' ⟨rfl, rfl⟩) | (go_at_call 28; refine (channel_is p a m true HC.out _).mono ?_; rintro e w' ⟨rfl, rfl⟩))
  go_quiet (fail)
  go_wp2_with (go_at_call 29; refine (nearest_is _ l z HZ.out _ (by omega) (by omega) hl (by omega)).mono ?_; rintro e w' ⟨rfl, rfl⟩)
  go_ret2
  exact ⟨rfl, below_drewN ((below1 _ _).alloc (by simp) _) _⟩
theorem length_c3 (hz1 : z ≤ 10000000000000) (hz2 : -10000000000000 ≤ z) :
    Calls Try.prog 10 #[.int .i64 l, .int .i64 rx, .agg #[.int .i64 p, .int .i64 a, .int .i64 m]] w fun e w' => e = .returned (.tuple #[.int .i64 z, .int .i64 0]) ∧ Below w.heap.size w w' := by
  have H := Lib.hid h; clear h
  have HC := Lib.hid hc; clear hc
  have HZ := Lib.hid hz; clear hz
  go_enter Try.func10, Try.ntmps10
  go_wp2_with (first | (go_at_call 27; refine (period_is l true H.out _).mono ?_; rintro e w' ⟨rfl, rfl⟩) | (go_at_call 28; refine (channel_is p a m true HC.out _).mono ?_; rintro e w' ⟨rfl, rfl⟩))
  go_quiet (fail)
  go_wp2_with (go_at_call 29; refine (nearest_is _ l z HZ.out _ (by omega) (by omega) hl (by omega)).mono ?_; rintro e w' ⟨rfl, rfl⟩)
  go_ret2
  exact ⟨rfl, below_drewN ((below1 _ _).alloc (by simp) _) _⟩
end

theorem length_any (l rx p a m : Int) (w : World) :
    Calls Try.prog 10 #[.int .i64 l, .int .i64 rx, .agg #[.int .i64 p, .int .i64 a, .int .i64 m]] w fun e w' => e = .returned (.tuple #[.int .i64 (Plain.lenV l rx p a m), .int .i64 (Plain.lenE l rx p a m)]) ∧ Below w.heap.size w w' := by
  cases hB : Plain.rngB l rx p a m
  · have e1 : Plain.lenV l rx p a m = 0 := by simp [Plain.lenV, hB]
    have e2 : Plain.lenE l rx p a m = 2 := by simp [Plain.lenE, hB]
    rw [e1, e2]
    cases hp : Plain.perB l
    · exact length_a1 l rx p a m w hp
    · by_cases h0 : rx < -604800000
      · exact length_a2 l rx p a m w hp h0
      · by_cases h1 : 1209600000 < rx
        · exact length_a3 l rx p a m w hp (by omega) h1
        · cases hc : Plain.chB p a m
          · exact length_a4 l rx p a m w hp (by omega) (by omega) hc
          · exfalso
            rw [Plain.rngB, hp, hc] at hB
            simp at hB
            omega
  · have hB' := hB
    simp [Plain.rngB] at hB'
    obtain ⟨⟨⟨hp, h0⟩, h1⟩, hc⟩ := hB'
    have hp' := hp
    have hc' := hc
    simp [Plain.perB] at hp'
    obtain ⟨hl, hl2⟩ := hp'
    simp [Plain.chB] at hc'
    obtain ⟨⟨⟨⟨⟨_, _⟩, ha⟩, ha2⟩, hm⟩, hm2⟩ := hc'
    have hq : 0 ≤ a / l := Int.ediv_nonneg ha (by omega)
    have hq2 : a / l ≤ a := Int.ediv_le_self _ ha
    have hW := Plain.whole_eq l rx a m
    by_cases hw1 : 40000 < rx - m + a / l
    · have hn : 10000000000000 < Plain.lenZ l rx a m := by
        refine Plain.len_big l rx a m hl (Int.not_le.1 fun hc => ?_)
        have r1 := Int.emod_nonneg a (b := l) (by omega)
        have := Int.mul_le_mul_of_nonneg_right (show 40001 ≤ rx - m + a / l by omega) (show 0 ≤ l by omega)
        omega
      have e1 : Plain.lenV l rx p a m = 0 := by simp [Plain.lenV, Plain.fitB]; omega
      have e2 : Plain.lenE l rx p a m = 5 := by simp [Plain.lenE, hB, Plain.fitB]; omega
      rw [e1, e2]
      exact length_b1 l rx p a m w hp h0 h1 hc hl hl2 ha ha2 hm hm2 hq (by omega) hw1
    · by_cases hw2 : rx - m + a / l < -40000
      · have hn : Plain.lenZ l rx a m < -10000000000000 := by
          refine Plain.len_small l rx a m hl (Int.not_le.1 fun hc => ?_)
          have r1 := Int.emod_lt_of_pos a (b := l) (by omega)
          have := Int.mul_le_mul_of_nonneg_right (show rx - m + a / l ≤ -40001 by omega) (show 0 ≤ l by omega)
          omega
        have e1 : Plain.lenV l rx p a m = 0 := by simp [Plain.lenV, Plain.fitB]; omega
        have e2 : Plain.lenE l rx p a m = 5 := by simp [Plain.lenE, hB, Plain.fitB]; omega
        rw [e1, e2]
        exact length_b2 l rx p a m w hp h0 h1 hc hl hl2 ha ha2 hm hm2 hq (by omega) hw2
      · have hpb := Plain.whole_bd l rx a m hl hl2 (by omega) (by omega)
        have r1 := Int.emod_nonneg a (b := l) (by omega)
        have r2 := Int.emod_lt_of_pos a (b := l) (by omega)
        have hz : Plain.near (299792458 * ((rx - m + a / l) * l + a % l)) l = Plain.lenZ l rx a m := by rw [hW]; rfl
        by_cases hz1 : 10000000000000 < Plain.lenZ l rx a m
        · have e1 : Plain.lenV l rx p a m = 0 := by simp [Plain.lenV, Plain.fitB]; omega
          have e2 : Plain.lenE l rx p a m = 5 := by simp [Plain.lenE, hB, Plain.fitB]; omega
          rw [e1, e2]
          exact length_c1 l rx p a m w hp h0 h1 hc hl hl2 ha ha2 hm hm2 (by omega) (by omega) r1 (by omega) hpb.1 hpb.2 _ hz hz1
        · by_cases hz2 : Plain.lenZ l rx a m < -10000000000000
          · have e1 : Plain.lenV l rx p a m = 0 := by simp [Plain.lenV, Plain.fitB]; omega
            have e2 : Plain.lenE l rx p a m = 5 := by simp [Plain.lenE, hB, Plain.fitB]; omega
            rw [e1, e2]
            exact length_c2 l rx p a m w hp h0 h1 hc hl hl2 ha ha2 hm hm2 (by omega) (by omega) r1 (by omega) hpb.1 hpb.2 _ hz hz2
          · have hf : Plain.fitB l rx a m = true := by simp [Plain.fitB]; omega
            have e1 : Plain.lenV l rx p a m = Plain.lenZ l rx a m := by simp [Plain.lenV, hB, hf]
            have e2 : Plain.lenE l rx p a m = 0 := by simp [Plain.lenE, hB, hf]
            rw [e1, e2]
            exact length_c3 l rx p a m w hp h0 h1 hc hl hl2 ha ha2 hm hm2 (by omega) (by omega) r1 (by omega) hpb.1 hpb.2 _ hz (by omega) (by omega)
end Go.Proofs.Ytacglimhkpfanaa
