/-
  WALKS: length, bound, awake (the statement's helpers).
-/
import Derived.Test.YtacglimhkpfanaaTb
namespace Go.Proofs.Ytacglimhkpfanaa
open Go.RowKit

theorem length_is (l rx p a m v e0 : Int) (hv : Plain.lenV l rx p a m = v) (he : Plain.lenE l rx p a m = e0) (w : World) :
    Calls Try.prog 10 #[.int .i64 l, .int .i64 rx, .agg #[.int .i64 p, .int .i64 a, .int .i64 m]] w fun e w' => e = .returned (.tuple #[.int .i64 v, .int .i64 e0]) ∧ Below w.heap.size w w' := by
  rw [← hv, ← he]; exact length_any l rx p a m w
theorem rlength_is (l rx p a m v e0 : Int) (hv : Plain.lenV l rx p a m = v) (he : Plain.lenE l rx p a m = e0) (w : World) :
    Calls Try.prog 11 #[.int .i64 l, .int .i64 rx, .agg #[.int .i64 p, .int .i64 a, .int .i64 m]] w fun e w' => e = .returned (.tuple #[.int .i64 v, .int .i64 e0]) ∧ Below w.heap.size w w' := by
  rw [← hv, ← he]; exact rlength_any l rx p a m w
theorem bound12_is (l over v e0 : Int) (hv : Plain.bndV l over = v) (he : Plain.bndE l over = e0) (w : World) :
    Calls Try.prog 12 #[.int .i64 l, .int .i64 over] w fun e w' => e = .returned (.tuple #[.int .i64 v, .int .i64 e0]) ∧ w = w' := by
  rw [← hv, ← he]; exact bound12_any l over w
theorem bound13_is (l over v e0 : Int) (hv : Plain.bndV l over = v) (he : Plain.bndE l over = e0) (w : World) :
    Calls Try.prog 13 #[.int .i64 l, .int .i64 over] w fun e w' => e = .returned (.tuple #[.int .i64 v, .int .i64 e0]) ∧ w = w' := by
  rw [← hv, ← he]; exact bound13_any l over w
theorem time15_is (words perbit f b p v e0 : Int) (hv : Plain.tmV words perbit f b p = v) (he : Plain.tmE words perbit f b p = e0) (w : World) :
    Calls Try.prog 15 #[.int .i64 words, .int .i64 perbit, .int .i64 f, .int .i64 b, .int .i64 p] w fun e w' => e = .returned (.tuple #[.int .i64 v, .int .i64 e0]) ∧ w = w' := by
  rw [← hv, ← he]; exact time15_any words perbit f b p w
theorem time16_is (words perbit f b p v e0 : Int) (hv : Plain.tmV words perbit f b p = v) (he : Plain.tmE words perbit f b p = e0) (w : World) :
    Calls Try.prog 16 #[.int .i64 words, .int .i64 perbit, .int .i64 f, .int .i64 b, .int .i64 p] w fun e w' => e = .returned (.tuple #[.int .i64 v, .int .i64 e0]) ∧ w = w' := by
  rw [← hv, ← he]; exact time16_any words perbit f b p w
theorem place17_is (words perbit ms x y z e0 : Int) (hx : Plain.plF words perbit ms = x) (hy : Plain.plB words perbit ms = y) (hz : Plain.plP words perbit ms = z) (he : Plain.plE words perbit ms = e0) (w : World) :
    Calls Try.prog 17 #[.int .i64 words, .int .i64 perbit, .int .i64 ms] w fun e w' => e = .returned (.tuple #[.int .i64 x, .int .i64 y, .int .i64 z, .int .i64 e0]) ∧ Below w.heap.size w w' := by
  rw [← hx, ← hy, ← hz, ← he]; exact place17_any words perbit ms w
theorem place18_is (words perbit ms x y z e0 : Int) (hx : Plain.plF words perbit ms = x) (hy : Plain.plB words perbit ms = y) (hz : Plain.plP words perbit ms = z) (he : Plain.plE words perbit ms = e0) (w : World) :
    Calls Try.prog 18 #[.int .i64 words, .int .i64 perbit, .int .i64 ms] w fun e w' => e = .returned (.tuple #[.int .i64 x, .int .i64 y, .int .i64 z, .int .i64 e0]) ∧ Below w.heap.size w w' := by
  rw [← hx, ← hy, ← hz, ← he]; exact place18_any words perbit ms w

theorem len_yes (l rx a m v : Int) (hv : Plain.lenV l rx 5 a m = v) (he : Plain.lenE l rx 5 a m = 0) (w : World) :
    Calls Try.prog 24 #[.int .i64 l, .int .i64 rx, .int .i64 a, .int .i64 m, .int .i64 v] w fun e w' => e = .returned (.bool true) ∧ Below w.heap.size w w' := by
  have HV := Lib.hid hv; clear hv
  have HE := Lib.hid he; clear he
  go_enter Try.func24, Try.ntmps24
  go_wp2_with (go_at_call 10; refine (length_is l rx 5 a m v 0 HV.out HE.out _).mono ?_; rintro e w' ⟨rfl, hb⟩)
  go_ret
  exact ⟨rfl, hb⟩
theorem bnd_yes (l over v : Int) (hv : Plain.bndV l over = v) (he : Plain.bndE l over = 0) (w : World) :
    Calls Try.prog 25 #[.int .i64 l, .int .i64 over, .int .i64 v] w fun e w' => e = .returned (.bool true) ∧ w = w' := by
  have HV := Lib.hid hv; clear hv
  have HE := Lib.hid he; clear he
  go_enter Try.func25, Try.ntmps25
  go_wp2_with (go_at_call 12; refine (bound12_is l over v 0 HV.out HE.out _).mono ?_; rintro e w' ⟨rfl, rfl⟩)
  go_ret
  exact ⟨rfl, rfl⟩

theorem awake_any (w : World) : Calls Try.prog 14 #[] w fun e w' => e = .returned (.bool true) ∧ Below w.heap.size w w' := by
  have h1 := fun w => time15_is 10 20 1 0 3 6003 0 (by decide) (by decide) w
  have h2 := fun w => len_yes 1000 70 0 0 20985472060 (by decide) (by decide) w
  have h3 := fun w => len_yes 3 0 1 1 (-199861639) (by decide) (by decide) w
  have h4 := fun w => bnd_yes 1000 2 599586 (by decide) (by decide) w
  have H1 := Lib.hid h1; clear h1
  have H2 := Lib.hid h2; clear h2
  have H3 := Lib.hid h3; clear h3
  have H4 := Lib.hid h4; clear h4
  go_enter Try.func14, Try.ntmps14
  go_wp2_with (go_at_call 15; refine (H1.out _).mono ?_; rintro e w' ⟨rfl, rfl⟩)
  refine (H2.out _).mono ?_
  rintro e w1 ⟨rfl, hb1⟩
  go_wp2_with fail
  refine (H3.out _).mono ?_
  rintro e w2 ⟨rfl, hb2⟩
  go_wp2_with (go_at_call 25; refine (H4.out _).mono ?_; rintro e w' ⟨rfl, rfl⟩)
  go_ret
  exact ⟨rfl, hb1.trans (hb2.mono hb1.size)⟩
end Go.Proofs.Ytacglimhkpfanaa
