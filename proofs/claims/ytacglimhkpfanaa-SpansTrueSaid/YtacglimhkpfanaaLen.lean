/-
  WALKS: what period, samples, channel, nearest, Length, Bound compute (spans and the reference).
-/
import Derived.Test.YtacglimhkpfanaaProg
import Derived.Test.YtacglimhkpfanaaPlain
import Derived.WalkKit
import Derived.Below
import Derived.BigQuiet
import Derived.Deep.QuietTactic
import Derived.Lib.Hide
import Derived.RegionTactic
import Derived.Outline
namespace Go.Proofs.Ytacglimhkpfanaa
open Go.RowKit

theorem period_any (l : Int) (w : World) : Calls Try.prog 27 #[.int .i64 l] w fun e w' => e = .returned (.bool (Plain.perB l)) ∧ w = w' := by
  by_cases h1 : 1 ≤ l
  · skip
    by_cases h2 : l ≤ 8192
    · skip
      have H := Lib.hid (show Plain.perB l = true by simp [Plain.perB, h1, h2])
      go_enter Try.func27, Try.ntmps27
      go_wp2
      go_ret
      exact ⟨by rw [H.out]; rfl, rfl⟩
    · skip
      have H := Lib.hid (show Plain.perB l = false by simp [Plain.perB, h2])
      go_enter Try.func27, Try.ntmps27
      go_wp2
      go_ret
      exact ⟨by rw [H.out]; rfl, rfl⟩
  · skip
    have H := Lib.hid (show Plain.perB l = false by simp [Plain.perB, h1])
    go_enter Try.func27, Try.ntmps27
    go_wp2
    go_ret
    exact ⟨by rw [H.out]; rfl, rfl⟩

theorem samples_any (l : Int) (w : World) : Calls Try.prog 30 #[.int .i64 l] w fun e w' => e = .returned (.bool (Plain.perB l)) ∧ w = w' := by
  by_cases h1 : 1 ≤ l
  · skip
    by_cases h2 : l ≤ 8192
    · skip
      have H := Lib.hid (show Plain.perB l = true by simp [Plain.perB, h1, h2])
      go_enter Try.func30, Try.ntmps30
      go_wp2
      go_ret
      exact ⟨by rw [H.out]; rfl, rfl⟩
    · skip
      have H := Lib.hid (show Plain.perB l = false by simp [Plain.perB, h2])
      go_enter Try.func30, Try.ntmps30
      go_wp2
      go_ret
      exact ⟨by rw [H.out]; rfl, rfl⟩
  · skip
    have H := Lib.hid (show Plain.perB l = false by simp [Plain.perB, h1])
    go_enter Try.func30, Try.ntmps30
    go_wp2
    go_ret
    exact ⟨by rw [H.out]; rfl, rfl⟩

theorem channel_any (p a m : Int) (w : World) : Calls Try.prog 28 #[.agg #[.int .i64 p, .int .i64 a, .int .i64 m]] w fun e w' => e = .returned (.bool (Plain.chB p a m)) ∧ w.alloc (.cells #[.int .i64 p, .int .i64 a, .int .i64 m] 23) = w' := by
  by_cases h1 : 1 ≤ p
  · skip
    by_cases h2 : p ≤ 2048
    · skip
      by_cases h3 : 0 ≤ a
      · skip
        by_cases h4 : a ≤ 1099511627776
        · skip
          by_cases h5 : 0 ≤ m
          · skip
            by_cases h6 : m < 604800000
            · skip
              have H := Lib.hid (show Plain.chB p a m = true by simp [Plain.chB, h1, h2, h3, h4, h5, h6])
              go_enter Try.func28, Try.ntmps28
              go_wp2
              go_ret
              exact ⟨by rw [H.out]; rfl, rfl⟩
            · skip
              have H := Lib.hid (show Plain.chB p a m = false by simp [Plain.chB, h6])
              go_enter Try.func28, Try.ntmps28
              go_wp2
              go_ret
              exact ⟨by rw [H.out]; rfl, rfl⟩
          · skip
            have H := Lib.hid (show Plain.chB p a m = false by simp [Plain.chB, h5])
            go_enter Try.func28, Try.ntmps28
            go_wp2
            go_ret
            exact ⟨by rw [H.out]; rfl, rfl⟩
        · skip
          have H := Lib.hid (show Plain.chB p a m = false by simp [Plain.chB, h4])
          go_enter Try.func28, Try.ntmps28
          go_wp2
          go_ret
          exact ⟨by rw [H.out]; rfl, rfl⟩
      · skip
        have H := Lib.hid (show Plain.chB p a m = false by simp [Plain.chB, h3])
        go_enter Try.func28, Try.ntmps28
        go_wp2
        go_ret
        exact ⟨by rw [H.out]; rfl, rfl⟩
    · skip
      have H := Lib.hid (show Plain.chB p a m = false by simp [Plain.chB, h2])
      go_enter Try.func28, Try.ntmps28
      go_wp2
      go_ret
      exact ⟨by rw [H.out]; rfl, rfl⟩
  · skip
    have H := Lib.hid (show Plain.chB p a m = false by simp [Plain.chB, h1])
    go_enter Try.func28, Try.ntmps28
    go_wp2
    go_ret
    exact ⟨by rw [H.out]; rfl, rfl⟩

theorem rchannel_any (p a m : Int) (w : World) : Calls Try.prog 31 #[.agg #[.int .i64 p, .int .i64 a, .int .i64 m]] w fun e w' => e = .returned (.int .i64 (Plain.chE p a m)) ∧ w.alloc (.cells #[.int .i64 p, .int .i64 a, .int .i64 m] 23) = w' := by
  by_cases h1 : 1 ≤ p
  · skip
    by_cases h2 : p ≤ 2048
    · skip
      by_cases h3 : 0 ≤ a
      · skip
        by_cases h4 : a ≤ 1099511627776
        · skip
          by_cases h5 : 0 ≤ m
          · skip
            by_cases h6 : m < 604800000
            · skip
              have H := Lib.hid (show Plain.chE p a m = 0 by simp [Plain.chE, Plain.chB, h1, h2, h3, h4, h5, h6])
              go_enter Try.func31, Try.ntmps31
              go_wp2
              go_ret
              exact ⟨by rw [H.out]; rfl, rfl⟩
            · skip
              have H := Lib.hid (show Plain.chE p a m = 2 by simp [Plain.chE, Plain.chB, h6])
              go_enter Try.func31, Try.ntmps31
              go_wp2
              go_ret
              exact ⟨by rw [H.out]; rfl, rfl⟩
          · skip
            have H := Lib.hid (show Plain.chE p a m = 2 by simp [Plain.chE, Plain.chB, h5])
            go_enter Try.func31, Try.ntmps31
            go_wp2
            go_ret
            exact ⟨by rw [H.out]; rfl, rfl⟩
        · skip
          have H := Lib.hid (show Plain.chE p a m = 2 by simp [Plain.chE, Plain.chB, h4])
          go_enter Try.func31, Try.ntmps31
          go_wp2
          go_ret
          exact ⟨by rw [H.out]; rfl, rfl⟩
      · skip
        have H := Lib.hid (show Plain.chE p a m = 2 by simp [Plain.chE, Plain.chB, h3])
        go_enter Try.func31, Try.ntmps31
        go_wp2
        go_ret
        exact ⟨by rw [H.out]; rfl, rfl⟩
    · skip
      have H := Lib.hid (show Plain.chE p a m = 2 by simp [Plain.chE, Plain.chB, h2])
      go_enter Try.func31, Try.ntmps31
      go_wp2
      go_ret
      exact ⟨by rw [H.out]; rfl, rfl⟩
  · skip
    have H := Lib.hid (show Plain.chE p a m = 2 by simp [Plain.chE, Plain.chB, h1])
    go_enter Try.func31, Try.ntmps31
    go_wp2
    go_ret
    exact ⟨by rw [H.out]; rfl, rfl⟩

theorem nearest_pos (n d : Int) (w : World) (h0 : 0 ≤ n) (h1 : n ≤ 1000000000000000000) (hd : 1 ≤ d) (hd2 : d ≤ 1000000000) :
    Calls Try.prog 29 #[.int .i64 n, .int .i64 d] w fun e w' => e = .returned (.int .i64 (Plain.near n d)) ∧ w = w' := by
  have H := Lib.hid (show Plain.near n d = (2 * n + d) / (2 * d) by unfold Plain.near; rw [if_neg (by omega)])
  go_enter Try.func29, Try.ntmps29
  go_wp2_with fail
  go_ret
  exact ⟨by rw [H.out]; rfl, rfl⟩

theorem nearest_any (n d : Int) (w : World) (h0 : -1000000000000000000 ≤ n) (h1 : n ≤ 1000000000000000000) (hd : 1 ≤ d) (hd2 : d ≤ 1000000000) :
    Calls Try.prog 29 #[.int .i64 n, .int .i64 d] w fun e w' => e = .returned (.int .i64 (Plain.near n d)) ∧ w = w' := by
  by_cases hn : n < 0
  · have H := Lib.hid (show Plain.near n d = -Plain.near (-n) d by rw [← Plain.near_neg _ _ (by omega), Int.neg_neg])
    have hb := Plain.near_bd (-n) d (by omega) (by omega) hd
    go_enter Try.func29, Try.ntmps29
    go_wp2_with (go_at_call 29; refine (nearest_pos (-n) d _ (by omega) (by omega) hd hd2).mono ?_; rintro e w' ⟨rfl, rfl⟩)
    go_ret
    exact ⟨by rw [H.out]; rfl, rfl⟩
  · exact nearest_pos n d w (by omega) h1 hd hd2

end Go.Proofs.Ytacglimhkpfanaa
