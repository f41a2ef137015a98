/-
  WALK: SpansTimes returns true.
-/
import Derived.Test.YtacglimhkpfanaaAwake
namespace Go.Proofs.Ytacglimhkpfanaa
open Go.RowKit

set_option maxRecDepth 100000 in
theorem spansTimes_walk (words perbit f b p ms : Int) (w : World) :
    Calls Try.prog 4 #[.int .i64 words, .int .i64 perbit, .int .i64 f, .int .i64 b, .int .i64 p, .int .i64 ms] w fun e w' => e = .returned (.bool true) ∧ Below w.heap.size w w' := by
  obtain ⟨v, hv⟩ : ∃ v, Plain.tmV words perbit f b p = v := ⟨_, rfl⟩
  obtain ⟨e0, he⟩ : ∃ v, Plain.tmE words perbit f b p = v := ⟨_, rfl⟩
  obtain ⟨x, hx⟩ : ∃ v, Plain.plF words perbit ms = v := ⟨_, rfl⟩
  obtain ⟨y, hy⟩ : ∃ v, Plain.plB words perbit ms = v := ⟨_, rfl⟩
  obtain ⟨z, hz⟩ : ∃ v, Plain.plP words perbit ms = v := ⟨_, rfl⟩
  obtain ⟨u, hu⟩ : ∃ v, Plain.plE words perbit ms = v := ⟨_, rfl⟩
  have H1 := Lib.hid (time15_is words perbit f b p v e0 hv he)
  have H2 := Lib.hid (time16_is words perbit f b p v e0 hv he)
  have H3 := Lib.hid (place17_is words perbit ms x y z u hx hy hz hu)
  have H4 := Lib.hid (place18_is words perbit ms x y z u hx hy hz hu)
  clear hv he hx hy hz hu
  go_enter Try.func4, Try.ntmps4
  go_wp2_with (first | (go_at_call 15; refine (H1.out _).mono ?_; rintro e w' ⟨rfl, rfl⟩) | (go_at_call 16; refine (H2.out _).mono ?_; rintro e w' ⟨rfl, rfl⟩) | (go_at_call 17; refine (H3.out _).mono ?_; rintro e w1 ⟨rfl, hb1⟩) | (go_at_call 18; refine (H4.out _).mono ?_; rintro e w2 ⟨rfl, hb2⟩) | (go_at_call 14; refine (awake_any _).mono ?_; rintro e w3 ⟨rfl, hb3⟩))
  go_ret
  have k2 : Below w.heap.size w w2 := hb1.trans (hb2.mono hb1.size)
  exact ⟨rfl, k2.trans (hb3.mono k2.size)⟩
end Go.Proofs.Ytacglimhkpfanaa
