/-
  WALKS: skyfixref29.Length.
-/
import Derived.Test.YtacglimhkpfanaaLenA
namespace Go.Proofs.Ytacglimhkpfanaa
open Go.RowKit

theorem samples_is (l : Int) (b : Bool) (h : Plain.perB l = b) (w : World) : Calls Try.prog 30 #[.int .i64 l] w fun e w' => e = .returned (.bool b) ∧ w = w' := by
  rw [← h]; exact samples_any l w
theorem rchannel_no (p a m : Int) (h : Plain.chB p a m = false) (w : World) : Calls Try.prog 31 #[.agg #[.int .i64 p, .int .i64 a, .int .i64 m]] w fun e w' =>
    e = .returned (.int .i64 2) ∧ w.alloc (.cells #[.int .i64 p, .int .i64 a, .int .i64 m] 23) = w' := by
  have e : Plain.chE p a m = 2 := by simp [Plain.chE, h]
  rw [← e]; exact rchannel_any p a m w
theorem rchannel_yes (p a m : Int) (h : Plain.chB p a m = true) (w : World) : Calls Try.prog 31 #[.agg #[.int .i64 p, .int .i64 a, .int .i64 m]] w fun e w' =>
    e = .returned (.int .i64 0) ∧ w.alloc (.cells #[.int .i64 p, .int .i64 a, .int .i64 m] 23) = w' := by
  have e : Plain.chE p a m = 0 := by simp [Plain.chE, h]
  rw [← e]; exact rchannel_any p a m w

theorem rlength_a1 (l rx p a m : Int) (w : World) (h : Plain.perB l = false) :
    Calls Try.prog 11 #[.int .i64 l, .int .i64 rx, .agg #[.int .i64 p, .int .i64 a, .int .i64 m]] w fun e w' => e = .returned (.tuple #[.int .i64 0, .int .i64 2]) ∧ Below w.heap.size w w' := by
  have H := Lib.hid h; clear h
  go_enter Try.func11, Try.ntmps11
  go_wp2_with (go_at_call 30; refine (samples_is l false H.out _).mono ?_; rintro e w' ⟨rfl, rfl⟩)
  go_ret2
  exact ⟨rfl, below1 _ _⟩
theorem rlength_a2 (l rx p a m : Int) (w : World) (h : Plain.perB l = true) (h1 : rx < -604800000) :
    Calls Try.prog 11 #[.int .i64 l, .int .i64 rx, .agg #[.int .i64 p, .int .i64 a, .int .i64 m]] w fun e w' => e = .returned (.tuple #[.int .i64 0, .int .i64 2]) ∧ Below w.heap.size w w' := by
  have H := Lib.hid h; clear h
  go_enter Try.func11, Try.ntmps11
  go_wp2_with (go_at_call 30; refine (samples_is l true H.out _).mono ?_; rintro e w' ⟨rfl, rfl⟩)
  go_ret2
  exact ⟨rfl, below1 _ _⟩
theorem rlength_a3 (l rx p a m : Int) (w : World) (h : Plain.perB l = true) (h0 : -604800000 ≤ rx) (h1 : 1209600000 < rx) :
    Calls Try.prog 11 #[.int .i64 l, .int .i64 rx, .agg #[.int .i64 p, .int .i64 a, .int .i64 m]] w fun e w' => e = .returned (.tuple #[.int .i64 0, .int .i64 2]) ∧ Below w.heap.size w w' := by
  have H := Lib.hid h; clear h
  go_enter Try.func11, Try.ntmps11
  go_wp2_with (go_at_call 30; refine (samples_is l true H.out _).mono ?_; rintro e w' ⟨rfl, rfl⟩)
  go_ret2
  exact ⟨rfl, below1 _ _⟩
theorem rlength_a4 (l rx p a m : Int) (w : World) (h : Plain.perB l = true) (h0 : -604800000 ≤ rx) (h1 : rx ≤ 1209600000) (hc : Plain.chB p a m = false) :
    Calls Try.prog 11 #[.int .i64 l, .int .i64 rx, .agg #[.int .i64 p, .int .i64 a, .int .i64 m]] w fun e w' => e = .returned (.tuple #[.int .i64 0, .int .i64 2]) ∧ Below w.heap.size w w' := by
  have H := Lib.hid h; clear h
  have HC := Lib.hid hc; clear hc
  go_enter Try.func11, Try.ntmps11
  go_wp2_with (first | (go_at_call 30; refine (samples_is l true H.out _).mono ?_; rintro e w' ⟨rfl, rfl⟩) | (go_at_call 31; refine (rchannel_no p a m HC.out _).mono ?_; rintro e w' ⟨rfl, rfl⟩))
  go_ret2
  exact ⟨rfl, (below1 _ _).alloc (by simp) _⟩

section
variable (l rx p a m : Int) (w : World) (h : Plain.perB l = true) (h0 : -604800000 ≤ rx) (h1 : rx ≤ 1209600000) (hc : Plain.chB p a m = true)
    (hl : 1 ≤ l) (hl2 : l ≤ 8192) (hm : 0 ≤ m) (hm2 : m < 604800000)
    (hp1 : (rx - m) * l ≤ 9909043200000) (hp2 : -9909043200000 ≤ (rx - m) * l)
include h h0 h1 hc hl hl2 hm hm2 hp1 hp2
theorem rlength_b1 (ha : 0 ≤ a) (ha2 : a ≤ 1099511627776) (hbig : 34000 * l < (rx - m) * l + a) :
    Calls Try.prog 11 #[.int .i64 l, .int .i64 rx, .agg #[.int .i64 p, .int .i64 a, .int .i64 m]] w fun e w' => e = .returned (.tuple #[.int .i64 0, .int .i64 5]) ∧ Below w.heap.size w w' := by
  have H := Lib.hid h; clear h
  have HC := Lib.hid hc; clear hc
  go_enter Try.func11, Try.ntmps11
  go_wp2_with (first | (go_at_call 30; refine (samples_is l true H.out _).mono ?_; rintro e w' ⟨rfl, rfl⟩) | (go_at_call 31; refine (rchannel_yes p a m HC.out _).mono ?_; rintro e w' ⟨rfl, rfl⟩))
  go_ret2
  exact ⟨rfl, (below1 _ _).alloc (by simp) _⟩
theorem rlength_b2 (ha : 0 ≤ a) (ha2 : a ≤ 1099511627776) (hbig : (rx - m) * l + a < -34000 * l) :
    Calls Try.prog 11 #[.int .i64 l, .int .i64 rx, .agg #[.int .i64 p, .int .i64 a, .int .i64 m]] w fun e w' => e = .returned (.tuple #[.int .i64 0, .int .i64 5]) ∧ Below w.heap.size w w' := by
  have H := Lib.hid h; clear h
  have HC := Lib.hid hc; clear hc
  go_enter Try.func11, Try.ntmps11
  go_wp2_with (first | (go_at_call 30; refine (samples_is l true H.out _).mono ?_; rintro e w' ⟨rfl, rfl⟩) | (go_at_call 31; refine (rchannel_yes p a m HC.out _).mono ?_; rintro e w' ⟨rfl, rfl⟩))
  go_ret2
  exact ⟨rfl, (below1 _ _).alloc (by simp) _⟩
variable (hn1 : (rx - m) * l + a ≤ 34000 * l) (hn2 : -34000 * l ≤ (rx - m) * l + a)
include hn1 hn2
theorem rlength_c1 (hpos : 0 ≤ (rx - m) * l + a) (hq : 0 ≤ (2 * ((rx - m) * l + a) * 299792458 + l) / (2 * l)) (hq2 : (2 * ((rx - m) * l + a) * 299792458 + l) / (2 * l) ≤ 1000000000000000) (hbig : 10000000000000 < (2 * ((rx - m) * l + a) * 299792458 + l) / (2 * l)) :
    Calls Try.prog 11 #[.int .i64 l, .int .i64 rx, .agg #[.int .i64 p, .int .i64 a, .int .i64 m]] w fun e w' => e = .returned (.tuple #[.int .i64 0, .int .i64 5]) ∧ Below w.heap.size w w' := by
  have H := Lib.hid h; clear h
  have HC := Lib.hid hc; clear hc
  go_enter Try.func11, Try.ntmps11
  go_wp2_with (first | (go_at_call 30; refine (samples_is l true H.out _).mono ?_; rintro e w' ⟨rfl, rfl⟩) | (go_at_call 31; refine (rchannel_yes p a m HC.out _).mono ?_; rintro e w' ⟨rfl, rfl⟩))
  go_ret2
  exact ⟨rfl, (below1 _ _).alloc (by simp) _⟩
theorem rlength_c2 (hpos : 0 ≤ (rx - m) * l + a) (hq : 0 ≤ (2 * ((rx - m) * l + a) * 299792458 + l) / (2 * l)) (hbig : (2 * ((rx - m) * l + a) * 299792458 + l) / (2 * l) ≤ 10000000000000) :
    Calls Try.prog 11 #[.int .i64 l, .int .i64 rx, .agg #[.int .i64 p, .int .i64 a, .int .i64 m]] w fun e w' => e = .returned (.tuple #[.int .i64 ((2 * ((rx - m) * l + a) * 299792458 + l) / (2 * l)), .int .i64 0]) ∧ Below w.heap.size w w' := by
  have H := Lib.hid h; clear h
  have HC := Lib.hid hc; clear hc
  go_enter Try.func11, Try.ntmps11
  go_wp2_with (first | (go_at_call 30; refine (samples_is l true H.out _).mono ?_; rintro e w' ⟨rfl, rfl⟩) | (go_at_call 31; refine (rchannel_yes p a m HC.out _).mono ?_; rintro e w' ⟨rfl, rfl⟩))
  go_ret2
  exact ⟨rfl, (below1 _ _).alloc (by simp) _⟩
theorem rlength_d1 (hpos : (rx - m) * l + a < 0) (hq : 0 ≤ (2 * -((rx - m) * l + a) * 299792458 + l) / (2 * l)) (hq2 : (2 * -((rx - m) * l + a) * 299792458 + l) / (2 * l) ≤ 1000000000000000) (hbig : 10000000000000 < (2 * -((rx - m) * l + a) * 299792458 + l) / (2 * l)) :
    Calls Try.prog 11 #[.int .i64 l, .int .i64 rx, .agg #[.int .i64 p, .int .i64 a, .int .i64 m]] w fun e w' => e = .returned (.tuple #[.int .i64 0, .int .i64 5]) ∧ Below w.heap.size w w' := by
  have H := Lib.hid h; clear h
  have HC := Lib.hid hc; clear hc
  go_enter Try.func11, Try.ntmps11
  go_wp2_with (first | (go_at_call 30; refine (samples_is l true H.out _).mono ?_; rintro e w' ⟨rfl, rfl⟩) | (go_at_call 31; refine (rchannel_yes p a m HC.out _).mono ?_; rintro e w' ⟨rfl, rfl⟩))
  go_ret2
  exact ⟨rfl, (below1 _ _).alloc (by simp) _⟩
theorem rlength_d2 (hpos : (rx - m) * l + a < 0) (hq : 0 ≤ (2 * -((rx - m) * l + a) * 299792458 + l) / (2 * l)) (hbig : (2 * -((rx - m) * l + a) * 299792458 + l) / (2 * l) ≤ 10000000000000) :
    Calls Try.prog 11 #[.int .i64 l, .int .i64 rx, .agg #[.int .i64 p, .int .i64 a, .int .i64 m]] w fun e w' => e = .returned (.tuple #[.int .i64 (-((2 * -((rx - m) * l + a) * 299792458 + l) / (2 * l))), .int .i64 0]) ∧ Below w.heap.size w w' := by
  have H := Lib.hid h; clear h
  have HC := Lib.hid hc; clear hc
  go_enter Try.func11, Try.ntmps11
  go_wp2_with (first | (go_at_call 30; refine (samples_is l true H.out _).mono ?_; rintro e w' ⟨rfl, rfl⟩) | (go_at_call 31; refine (rchannel_yes p a m HC.out _).mono ?_; rintro e w' ⟨rfl, rfl⟩))
  go_ret2
  exact ⟨rfl, (below1 _ _).alloc (by simp) _⟩
end

theorem rlength_any (l rx p a m : Int) (w : World) :
    Calls Try.prog 11 #[.int .i64 l, .int .i64 rx, .agg #[.int .i64 p, .int .i64 a, .int .i64 m]] w fun e w' => e = .returned (.tuple #[.int .i64 (Plain.lenV l rx p a m), .int .i64 (Plain.lenE l rx p a m)]) ∧ Below w.heap.size w w' := by
  cases hB : Plain.rngB l rx p a m
  · have e1 : Plain.lenV l rx p a m = 0 := by simp [Plain.lenV, hB]
    have e2 : Plain.lenE l rx p a m = 2 := by simp [Plain.lenE, hB]
    rw [e1, e2]
    cases hp : Plain.perB l
    · exact rlength_a1 l rx p a m w hp
    · by_cases h0 : rx < -604800000
      · exact rlength_a2 l rx p a m w hp h0
      · by_cases h1 : 1209600000 < rx
        · exact rlength_a3 l rx p a m w hp (by omega) h1
        · cases hc : Plain.chB p a m
          · exact rlength_a4 l rx p a m w hp (by omega) (by omega) hc
          · exfalso
            rw [Plain.rngB, hp, hc] at hB
            simp at hB
            omega
  · have hB' := hB
    simp [Plain.rngB] at hB'
    obtain ⟨⟨⟨hp, h0⟩, h1⟩, hc⟩ := hB'
    have hp' := hp
    have hc' := hc
    simp [Plain.perB] at hp'
    obtain ⟨hl, hl2⟩ := hp'
    simp [Plain.chB] at hc'
    obtain ⟨⟨⟨⟨⟨_, _⟩, ha⟩, ha2⟩, hm⟩, hm2⟩ := hc'
    have hb := Plain.N_bd l rx m hl hl2 h0 h1 hm hm2
    have hN : Plain.lenN l rx a m = (rx - m) * l + a := rfl
    by_cases hn1 : 34000 * l < (rx - m) * l + a
    · have hn := Plain.len_big l rx a m hl hn1
      have e1 : Plain.lenV l rx p a m = 0 := by simp [Plain.lenV, Plain.fitB]; omega
      have e2 : Plain.lenE l rx p a m = 5 := by simp [Plain.lenE, hB, Plain.fitB]; omega
      rw [e1, e2]
      exact rlength_b1 l rx p a m w hp h0 h1 hc hl hl2 hm hm2 hb.1 hb.2 ha ha2 hn1
    · by_cases hn2 : (rx - m) * l + a < -34000 * l
      · have hn := Plain.len_small l rx a m hl hn2
        have e1 : Plain.lenV l rx p a m = 0 := by simp [Plain.lenV, Plain.fitB]; omega
        have e2 : Plain.lenE l rx p a m = 5 := by simp [Plain.lenE, hB, Plain.fitB]; omega
        rw [e1, e2]
        exact rlength_b2 l rx p a m w hp h0 h1 hc hl hl2 hm hm2 hb.1 hb.2 ha ha2 hn2
      · by_cases hpos : 0 ≤ (rx - m) * l + a
        · have hz : Plain.lenZ l rx a m = (2 * ((rx - m) * l + a) * 299792458 + l) / (2 * l) := Plain.Z_pos l rx a m hpos
          have hk := Plain.Z_bd l rx a m hl (by omega) (by omega)
          rw [hz] at hk
          have hq : 0 ≤ (2 * ((rx - m) * l + a) * 299792458 + l) / (2 * l) := Int.ediv_nonneg (by omega) (by omega)
          by_cases hbig : 10000000000000 < (2 * ((rx - m) * l + a) * 299792458 + l) / (2 * l)
          · have e1 : Plain.lenV l rx p a m = 0 := by simp [Plain.lenV, Plain.fitB, hz]; omega
            have e2 : Plain.lenE l rx p a m = 5 := by simp [Plain.lenE, hB, Plain.fitB, hz]; omega
            rw [e1, e2]
            exact rlength_c1 l rx p a m w hp h0 h1 hc hl hl2 hm hm2 hb.1 hb.2 (by omega) (by omega) hpos hq (by omega) hbig
          · have hf : Plain.fitB l rx a m = true := by simp [Plain.fitB, hz]; omega
            have e1 : Plain.lenV l rx p a m = (2 * ((rx - m) * l + a) * 299792458 + l) / (2 * l) := by simp [Plain.lenV, hB, hf, hz]
            have e2 : Plain.lenE l rx p a m = 0 := by simp [Plain.lenE, hB, hf]
            rw [e1, e2]
            exact rlength_c2 l rx p a m w hp h0 h1 hc hl hl2 hm hm2 hb.1 hb.2 (by omega) (by omega) hpos hq (by omega)
        · have hz : Plain.lenZ l rx a m = -((2 * -((rx - m) * l + a) * 299792458 + l) / (2 * l)) := Plain.Z_neg l rx a m (by omega)
          have hk := Plain.Z_bd l rx a m hl (by omega) (by omega)
          rw [hz] at hk
          have hq : 0 ≤ (2 * -((rx - m) * l + a) * 299792458 + l) / (2 * l) := Int.ediv_nonneg (by omega) (by omega)
          by_cases hbig : 10000000000000 < (2 * -((rx - m) * l + a) * 299792458 + l) / (2 * l)
          · have e1 : Plain.lenV l rx p a m = 0 := by simp [Plain.lenV, Plain.fitB, hz]; omega
            have e2 : Plain.lenE l rx p a m = 5 := by simp [Plain.lenE, hB, Plain.fitB, hz]; omega
            rw [e1, e2]
            exact rlength_d1 l rx p a m w hp h0 h1 hc hl hl2 hm hm2 hb.1 hb.2 (by omega) (by omega) (by omega) hq (by omega) hbig
          · have hf : Plain.fitB l rx a m = true := by simp [Plain.fitB, hz]; omega
            have e1 : Plain.lenV l rx p a m = -((2 * -((rx - m) * l + a) * 299792458 + l) / (2 * l)) := by simp [Plain.lenV, hB, hf, hz]
            have e2 : Plain.lenE l rx p a m = 0 := by simp [Plain.lenE, hB, hf]
            rw [e1, e2]
            exact rlength_d2 l rx p a m w hp h0 h1 hc hl hl2 hm hm2 hb.1 hb.2 (by omega) (by omega) (by omega) hq (by omega)
end Go.Proofs.Ytacglimhkpfanaa
