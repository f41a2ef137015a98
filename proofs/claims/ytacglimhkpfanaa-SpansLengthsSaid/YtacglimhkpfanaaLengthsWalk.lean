/-
  WALK: SpansLengths returns true.
-/
import Derived.Test.YtacglimhkpfanaaAwake
namespace Go.Proofs.Ytacglimhkpfanaa
open Go.RowKit

theorem spansLengths_walk (l over rx p a m : Int) (w : World) :
    Calls Try.prog 3 #[.int .i64 l, .int .i64 over, .int .i64 rx, .agg #[.int .i64 p, .int .i64 a, .int .i64 m]] w fun e w' => e = .returned (.bool true) ∧ Below w.heap.size w w' := by
  obtain ⟨v, hv⟩ : ∃ v, Plain.lenV l rx p a m = v := ⟨_, rfl⟩
  obtain ⟨e0, he⟩ : ∃ v, Plain.lenE l rx p a m = v := ⟨_, rfl⟩
  obtain ⟨b, hb⟩ : ∃ v, Plain.bndV l over = v := ⟨_, rfl⟩
  obtain ⟨b0, hb0⟩ : ∃ v, Plain.bndE l over = v := ⟨_, rfl⟩
  have H1 := Lib.hid (length_is l rx p a m v e0 hv he)
  have H2 := Lib.hid (rlength_is l rx p a m v e0 hv he)
  have H3 := Lib.hid (bound12_is l over b b0 hb hb0)
  have H4 := Lib.hid (bound13_is l over b b0 hb hb0)
  clear hv he hb hb0
  go_enter Try.func3, Try.ntmps3
  go_wp2_with fail
  refine (H1.out _).mono ?_
  rintro e w1 ⟨rfl, hb1⟩
  have hc0 := hb1.cell (p := ⟨w.heap.size, 0, none⟩) (by simp)
  have hc1 := hb1.cell (p := ⟨w.heap.size, 1, none⟩) (by simp)
  have hc2 := hb1.cell (p := ⟨w.heap.size, 2, none⟩) (by simp)
  go_wp2_with fail
  refine (H2.out _).mono ?_
  rintro e w2 ⟨rfl, hb2⟩
  go_wp2_with (first | (go_at_call 12; refine (H3.out _).mono ?_; rintro e w' ⟨rfl, rfl⟩) | (go_at_call 13; refine (H4.out _).mono ?_; rintro e w' ⟨rfl, rfl⟩) | (go_at_call 14; refine (awake_any _).mono ?_; rintro e w3 ⟨rfl, hb3⟩))
  go_ret
  have k1 : Below w.heap.size w w1 := (below1 w _).trans (hb1.mono (by simp))
  have k2 : Below w.heap.size w w2 := k1.trans (hb2.mono k1.size)
  exact ⟨rfl, k2.trans (hb3.mono k2.size)⟩
end Go.Proofs.Ytacglimhkpfanaa
