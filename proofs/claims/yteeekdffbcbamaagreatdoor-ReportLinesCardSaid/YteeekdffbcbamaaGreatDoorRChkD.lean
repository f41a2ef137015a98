/-
  WALKS: the reference's Check of a text.
-/
import Derived.Test.YteeekdffbcbamaaGreatDoorRChkC
namespace Go.Proofs.YteeekdffbcbamaaGreatDoor
open Go.RowKit
theorem two_alloc {w : World} {o1 o2 : Obj} : Below w.heap.size w ((w.alloc o1).alloc o2) := ((Below.refl _ _).alloc (Nat.le_refl _) _).alloc (by simp) _
set_option maxRecDepth 100000 in
set_option maxHeartbeats 4000000 in
theorem rcheck_text (t : Int) (A : Option Addr) (c : Nat) (T : ByteArray) (w : World) (ht : Plain.inR t 0 604799999 = true) (hs : T.size ≤ 1000000) :
    Calls Tryz.prog 22 #[.agg #[.int .i64 3, .int .i64 t, .bool false, .int .i64 0, .int .i64 0, .int .i64 0, .int .i64 0, .int .i64 0, .int .i64 0, .slice A 0 c, .int .i64 0, .int .i64 0, .int .i64 0, .string T]] w (CheckPost w (Plain.textE T.data.toList)) := by
  have HT := Lib.hid (fun W => rwithin_any t 0 604799999 true W ht)
  obtain ⟨r, hr⟩ : ∃ r, Plain.textE T.data.toList = r := ⟨_, rfl⟩
  rw [hr]
  have HR := Lib.hid (fun W => rtext_any T W hs r hr)
  clear ht hr
  have e_P := fun W => eq3_is (same3_refl 0 0 0) W
  go_enter Tryz.func22, Tryz.ntmps22
  go_wp2_with fail
  refine (HT.out _).mono ?_
  rintro en w1 ⟨rfl, rfl⟩
  go_wp2_with fail
  refine (HR.out _).mono ?_
  rintro en w2 ⟨rfl, rfl⟩
  go_wp2_with fail
  go_ret
  exact ⟨rfl, two_alloc⟩
end Go.Proofs.YteeekdffbcbamaaGreatDoor
