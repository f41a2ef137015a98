/-
  WALKS, joined: the line of any sentence (the reference's Line).
-/
import Derived.Test.YteeekdffbcbamaaGreatDoorRLineT
import Derived.Test.YteeekdffbcbamaaGreatDoorRLineC
import Derived.Test.YteeekdffbcbamaaGreatDoorRLineF
namespace Go.Proofs.YteeekdffbcbamaaGreatDoor
open Go.RowKit
set_option maxRecDepth 100000 in
set_option maxHeartbeats 1000000 in
theorem rline_bad (x : Plain.Sn) (A : Option Addr) (c : Nat) (w : World) (hN : PrL w A x.prns) (hs : x.text.size ≤ 1000000) (hn : x.prns.length ≤ 9223372036854775807) (h0 : Plain.checkE x ≠ 0) :
    Calls Tryz.prog 20 #[.agg (snCells x (.slice A x.prns.length c))] w (LinePost w (⟨#[]⟩, Plain.checkE x)) := by
  have HC := Lib.hid (fun W hN => rcheck_any x A c W hN hs hn)
  have HN := Lib.hid (hN.below ((Below.refl _ _).alloc (Nat.le_refl w.heap.size) (.cells (snCells x (.slice A x.prns.length c)) 28)) (Nat.le_refl _))
  obtain ⟨r, hr⟩ : ∃ r, Plain.checkE x = r := ⟨_, rfl⟩
  rw [hr] at HC h0 ⊢
  unfold snCells at *
  generalize x.prns.length = n at *
  have hq : (r != 0) = true := by simpa using h0
  clear h0 hN hs hn hr
  go_enter Tryz.func20, Tryz.ntmps20
  go_wp2_with fail
  refine (HC.out _ HN.out).mono ?_
  rintro en w1 ⟨rfl, hb1⟩
  have HB1 := Lib.hid hb1; clear hb1
  go_wp2_with fail
  go_ret2
  exact ⟨rfl, one_alloc HB1.out⟩
theorem rline_any (x : Plain.Sn) (A : Option Addr) (c : Nat) (w : World) (hN : PrL w A x.prns) (hs : x.text.size ≤ 1000000) (hn : x.prns.length ≤ 9223372036854775807) :
    Calls Tryz.prog 20 #[.agg (snCells x (.slice A x.prns.length c))] w (LinePost w (lineR x)) := by
  by_cases h0 : Plain.checkE x = 0
  · have e : lineR x = (lineB x, 0) := by unfold lineR; rw [if_pos h0]
    rw [e]
    rcases Plain.zero_kind h0 with h | h | h
    · exact rline_fix x A c w hN hs hn h0 h
    · exact rline_chan x A c w hN hs hn h0 h
    · exact rline_text x A c w hN hs hn h0 h
  · have e : lineR x = (⟨#[]⟩, Plain.checkE x) := by unfold lineR; rw [if_neg h0]
    rw [e]
    exact rline_bad x A c w hN hs hn h0
end Go.Proofs.YteeekdffbcbamaaGreatDoor
