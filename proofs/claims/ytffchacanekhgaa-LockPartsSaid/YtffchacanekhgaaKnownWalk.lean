/-
  WALK: LockKnown returns true.
-/
import Derived.Test.YtffchacanekhgaaAwake
namespace Go.Proofs.Ytffchacanekhgaa
open Go.RowKit

theorem bthen {a W w2 : World} (h : Below a.heap.size a W) (hb : Below W.heap.size W w2) : Below a.heap.size a w2 := h.trans (hb.mono h.size)
theorem balloc {a W : World} (h : Below a.heap.size a W) (o : Obj) : Below a.heap.size a (W.alloc o) := h.alloc h.size o

set_option maxHeartbeats 2000000 in
theorem lockKnown_walk (w : World) : Calls Try.prog 4 #[] w fun e w' => e = .returned (.bool true) ∧ Below w.heap.size w w' := by
  have H1 := Lib.hid (fun w => new13_is 0 1 0 0 2 (by decide) (by decide) (by decide) w)
  have H2 := Lib.hid (fun w => new13_is 1 101 0 0 2 (by decide) (by decide) (by decide) w)
  have H3 := Lib.hid (fun w => check14_is 2 3 1 1 false 3 (by decide) w)
  have H4 := Lib.hid (fun w => check14_is 2 3 3 0 false 3 (by decide) w)
  have H5 := Lib.hid (fun w => check14_is 2 3 2 0 false 3 (by decide) w)
  have H6 := Lib.hid (fun w => check14_is 2 3 1 0 true 0 (by decide) w)
  have H7 := Lib.hid (fun w => new13_is 2 1 2 1 0 (by decide) (by decide) (by decide) w)
  have H8 := Lib.hid (fun w => reach15_is 2 1 0 0 false 1 1 0 (by decide) (by decide) w)
  go_enter Try.func4, Try.ntmps4
  go_wp2_with fail
  refine (H1.out _).mono ?_
  rintro e w1 ⟨rfl, hb1⟩
  have k1 := balloc hb1 (.cells #[.int .i64 0, .int .i64 0, .int .i64 0, .int .i64 0, .bool false] 23)
  go_wp2_with fail
  refine (H2.out _).mono ?_
  rintro e w2 ⟨rfl, hb2⟩
  have k2 := balloc (bthen k1 hb2) (.cells #[.int .i64 0, .int .i64 0, .int .i64 0, .int .i64 0, .bool false] 23)
  go_wp2_with fail
  refine (H3.out _).mono ?_
  rintro e w3 ⟨rfl, hb3⟩
  have k3 := bthen k2 hb3
  go_wp2_with fail
  refine (H4.out _).mono ?_
  rintro e w4 ⟨rfl, hb4⟩
  have k4 := bthen k3 hb4
  go_wp2_with fail
  refine (H5.out _).mono ?_
  rintro e w5 ⟨rfl, hb5⟩
  have k5 := bthen k4 hb5
  go_wp2_with fail
  refine (H6.out _).mono ?_
  rintro e w6 ⟨rfl, hb6⟩
  have k6 := bthen k5 hb6
  clear k1 k2 k3 k4 k5 hb1 hb2 hb3 hb4 hb5 hb6
  go_wp2_with fail
  refine (H7.out _).mono ?_
  rintro e w7 ⟨rfl, hb7⟩
  have k7 := balloc (bthen k6 hb7) (.cells #[.int .i64 2, .int .i64 1, .int .i64 0, .int .i64 0, .bool false] 23)
  go_wp2_with fail
  refine (H8.out _).mono ?_
  rintro e w8 ⟨rfl, hb8⟩
  have k8 := bthen k7 hb8
  go_wp2_with (go_at_call 9; refine (awake_any _).mono ?_; rintro e w9 ⟨rfl, hb9⟩)
  go_ret
  exact ⟨rfl, bthen k8 hb9⟩
end Go.Proofs.Ytffchacanekhgaa
