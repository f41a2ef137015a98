/-
  WALKS: the reference's Check of a channel.
-/
import Derived.Test.YteeekdffbcbamaaGreatDoorRChkD
namespace Go.Proofs.YteeekdffbcbamaaGreatDoor
open Go.RowKit
set_option maxRecDepth 100000 in
set_option maxHeartbeats 4000000 in
theorem rcheck_chan (t : Int) (ok : Bool) (A : Option Addr) (c : Nat) (m g u : Int) (T : ByteArray) (w : World) (ht : Plain.inR t 0 604799999 = true) (hT : T.data.toList = []) (r1 r2 r3 : Bool) (R : Int) (hR : (if (r1 && r2 && r3) = false then (2 : Int) else 0) = R) (h1 : Plain.inR m 1 63 = r1) (h2 : Plain.inR g 0 8191 = r2) (h3 : Plain.inR u 0 1000000000000000000 = r3) :
    Calls Tryz.prog 22 #[.agg #[.int .i64 2, .int .i64 t, .bool ok, .int .i64 0, .int .i64 0, .int .i64 0, .int .i64 0, .int .i64 0, .int .i64 0, .slice A 0 c, .int .i64 m, .int .i64 g, .int .i64 u, .string T]] w (CheckPost w R) := by
  have HT := Lib.hid (fun W => rwithin_any t 0 604799999 true W ht)
  have H1 := Lib.hid (fun W => rwithin_any _ _ _ _ W h1)
  have H2 := Lib.hid (fun W => rwithin_any _ _ _ _ W h2)
  have H3 := Lib.hid (fun W => rwithin_any _ _ _ _ W h3)
  have q1 : T.toList = [] := by rw [ByteArray.toList_eq]; exact hT
  have q2 : T.toList.isEmpty = true := by rw [q1]; rfl
  have HR := Lib.hid hR
  clear ht h1 h2 h3 hT hR
  have e_P := fun W => eq3_is (same3_refl 0 0 0) W
  go_enter Tryz.func22, Tryz.ntmps22
  go_wp2_with fail
  refine (HT.out _).mono ?_
  rintro en w1 ⟨rfl, rfl⟩
  go_wp2_with fail
  refine (H1.out _).mono ?_
  rintro en w2 ⟨rfl, rfl⟩
  cases r1
  · obtain rfl : R = 2 := by have := HR.out; simpa using this.symm
    go_wp2_with fail
    go_ret
    exact ⟨rfl, two_alloc⟩
  · go_wp2_with fail
    refine (H2.out _).mono ?_
    rintro en w2 ⟨rfl, rfl⟩
    cases r2
    · obtain rfl : R = 2 := by have := HR.out; simpa using this.symm
      go_wp2_with fail
      go_ret
      exact ⟨rfl, two_alloc⟩
    · go_wp2_with fail
      refine (H3.out _).mono ?_
      rintro en w2 ⟨rfl, rfl⟩
      cases r3
      · obtain rfl : R = 2 := by have := HR.out; simpa using this.symm
        go_wp2_with fail
        go_ret
        exact ⟨rfl, two_alloc⟩
      · obtain rfl : R = 0 := by have := HR.out; simpa using this.symm
        go_wp2_with fail
        go_ret
        exact ⟨rfl, two_alloc⟩
end Go.Proofs.YteeekdffbcbamaaGreatDoor
