/-
  WALK: sameSpans of two lists that read alike.
-/
import Derived.Test.YtacglimhkpfanaaStepR
import Derived.BigQuiet
import Derived.Deep.QuietTactic
import Derived.Outline
namespace Go.Proofs.Ytacglimhkpfanaa
open Go.RowKit

set_option maxHeartbeats 2000000 in
theorem same23_yes (A A' : Option Addr) (k c c' : Nat) (V : List Plain.Tri) (w : World) (h : Reads3 w w.heap.size A V) (h' : Reads3 w w.heap.size A' V) (hl : V.length = k) (hk : k ≤ 1000000) :
    Calls Try.prog 23 #[.slice A k c, .slice A' k c'] w fun e w' => e = .returned (.bool true) ∧ Below w.heap.size w w' := by
  have HL := Lib.hid hl; clear hl
  have H1 := Lib.hid h; clear h
  have H2 := Lib.hid h'; clear h'
  go_enter Try.func23, Try.ntmps23
  go_wp2_with fail
  go_loopw [5] (fun i wr => ∃ j : Nat, j ≤ k ∧ i = .int .i64 j ∧ Below w.heap.size w wr) (fun i _ => k - (intOf i).toNat)
  case atStart => exact ⟨0, Nat.zero_le _, rfl, Below.refl _ _⟩
  case round =>
    obtain ⟨j, hj, rfl, hB⟩ := hrel
    by_cases hlt : j < k
    · have hjl : j < V.length := by rw [HL.out]; exact hlt
      obtain ⟨ad, hA, _, a0, a1, a2⟩ := (H1.out.below hB (Nat.le_refl _)) j hjl
      obtain ⟨ad', hA', _, b0, b1, b2⟩ := (H2.out.below hB (Nat.le_refl _)) j hjl
      subst hA
      subst hA'
      generalize V[j] = x at a0 a1 a2 b0 b1 b2
      obtain ⟨x0, x1, x2⟩ := x
      simp only at a0 a1 a2 b0 b1 b2
      have q0 : (x0 == x0) = true := beq_iff_eq.2 rfl
      have q1 : (x1 == x1) = true := beq_iff_eq.2 rfl
      have q2 : (x2 == x2) = true := beq_iff_eq.2 rfl
      have HB := Lib.hid hB; clear hB
      go_wp2_with fail
      go_quiet (fail)
      go_wp2_with fail
      go_roundw
      case rel => exact ⟨j + 1, by omega, by go_num, below_drewN HB.out _⟩
      case measure => simp [intOf]; omega
    · go_wp2_with fail
      go_ret
      exact ⟨rfl, hB⟩
end Go.Proofs.Ytacglimhkpfanaa
