/-
  WALKS: same at two slices that read alike; pick; down; Reach.
-/
import Derived.Test.YtffchacanekhgaaRRun
namespace Go.Proofs.Ytffchacanekhgaa
open Go.RowKit

set_option maxHeartbeats 1000000 in
theorem same_yes (A A' : Option Addr) (c c' : Nat) (xs : List Bool) (w : World) (h : ReadsB w w.heap.size A xs) (h' : ReadsB w w.heap.size A' xs) (hk : xs.length ≤ 1000000) :
    Calls Try.prog 12 #[.slice A xs.length c, .slice A' xs.length c'] w fun e w' => e = .returned (.bool true) ∧ Below w.heap.size w w' := by
  obtain ⟨k, hkl⟩ : ∃ k, xs.length = k := ⟨_, rfl⟩
  rw [hkl] at hk ⊢
  have HK := Lib.hid hkl; clear hkl
  have H1 := Lib.hid h; clear h
  have H2 := Lib.hid h'; clear h'
  go_enter Try.func12, Try.ntmps12
  go_wp2_with fail
  go_loopw [5] (fun i wr => ∃ j : Nat, j ≤ k ∧ i = .int .i64 j ∧ Below w.heap.size w wr) (fun i _ => k - (intOf i).toNat)
  case atStart => exact ⟨0, Nat.zero_le _, rfl, Below.refl _ _⟩
  case round =>
    obtain ⟨j, hj, rfl, hB⟩ := hrel
    by_cases hlt : j < k
    · have hjl : j < xs.length := by rw [HK.out]; exact hlt
      obtain ⟨ad, hA, _, hc1⟩ := (H1.out.below hB) j hjl
      obtain ⟨ad', hA', _, hc2⟩ := (H2.out.below hB) j hjl
      subst hA
      subst hA'
      generalize xs[j] = x at hc1 hc2
      go_wp2_with fail
      cases x
      all_goals
        go_quiet (fail)
        go_wp2_with fail
        go_roundw
        case rel => exact ⟨j + 1, by omega, by go_num, below_drewN hB _⟩
        case measure => simp [intOf]; omega
    · go_wp2_with fail
      go_ret
      exact ⟨rfl, hB⟩
end Go.Proofs.Ytffchacanekhgaa
