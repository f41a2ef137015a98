/-
  WALKS, joined: the error of any sentence (the reference's Check).
-/
import Derived.Test.YteeekdffbcbamaaGreatDoorRChkC
import Derived.Test.YteeekdffbcbamaaGreatDoorRChkE
import Derived.Test.YteeekdffbcbamaaGreatDoorRChkF
namespace Go.Proofs.YteeekdffbcbamaaGreatDoor
open Go.RowKit
theorem rcheck_any (x : Plain.Sn) (A : Option Addr) (c : Nat) (w : World) (hN : PrL w A x.prns) (hs : x.text.size ≤ 1000000) (hn : x.prns.length ≤ 9223372036854775807) :
    Calls Tryz.prog 22 #[.agg (snCells x (.slice A x.prns.length c))] w (CheckPost w (Plain.checkE x)) := by
  have hl : x.prns.length = 0 ↔ x.prns = [] := List.length_eq_zero_iff
  by_cases hk : x.kind ≠ 1 ∧ x.kind ≠ 2 ∧ x.kind ≠ 3
  · rw [Plain.checkE_kind hk]
    exact rcheck_kind x A _ c w hk.1 hk.2.1 hk.2.2
  · have hk3 : x.kind = 1 ∨ x.kind = 2 ∨ x.kind = 3 := by omega
    cases ht : Plain.inR x.time 0 604799999
    · rw [Plain.checkE_time hk3 ht]
      rcases hk3 with h | h | h
      · exact rcheck_time1 x A _ c w h ht
      · exact rcheck_time2 x A _ c w h ht
      · exact rcheck_time3 x A _ c w h ht
    · rcases hk3 with h | h | h
      · obtain ⟨e1, e2⟩ := Plain.checkE_1 h ht
        by_cases hf : Plain.fixOnly x
        · rw [e1 hf]
          exact rcheck_fix x A _ c w h ht hf rfl hN hn
        · rw [e2 hf]
          unfold snCells
          rw [h]
          exact rcheck_extra1 x.time x.ok x.p0 x.p1 x.p2 x.l0 x.l1 x.l2 A _ c x.prn x.lag x.power x.text w ht hf
      · obtain ⟨e1, e2⟩ := Plain.checkE_2 h ht
        by_cases hf : Plain.chanOnly x
        · rw [e1 hf]
          obtain ⟨a0, a1, a2, a3, a4, a5, a6, a7⟩ := hf
          unfold snCells
          rw [h, a0, a1, a2, a3, a4, a5, hl.2 a6]
          exact rcheck_chan x.time x.ok A c x.prn x.lag x.power x.text w ht a7 _ _ _ _ rfl rfl rfl rfl
        · rw [e2 hf]
          unfold snCells
          rw [h]
          exact rcheck_extra2 x.time x.ok x.p0 x.p1 x.p2 x.l0 x.l1 x.l2 A _ c x.prn x.lag x.power x.text w ht (fun ⟨⟨a0, a1, a2⟩, ⟨a3, a4, a5⟩, a6, a7⟩ => hf ⟨a0, a1, a2, a3, a4, a5, hl.1 a6, a7⟩)
      · obtain ⟨e1, e2⟩ := Plain.checkE_3 h ht
        by_cases hf : Plain.textOnly x
        · rw [e1 hf]
          obtain ⟨b0, a0, a1, a2, a3, a4, a5, a6, a7, a8, a9⟩ := hf
          unfold snCells
          rw [h, b0, a0, a1, a2, a3, a4, a5, hl.2 a6, a7, a8, a9]
          exact rcheck_text x.time A c x.text w ht hs
        · rw [e2 hf]
          unfold snCells
          rw [h]
          exact rcheck_extra3 x.time x.ok x.p0 x.p1 x.p2 x.l0 x.l1 x.l2 A _ c x.prn x.lag x.power x.text w ht (fun ⟨⟨a0, a1, a2⟩, ⟨a3, a4, a5⟩, a6, a7, a8, a9, b0⟩ => hf ⟨b0, a0, a1, a2, a3, a4, a5, hl.1 a6, a7, a8, a9⟩)
end Go.Proofs.YteeekdffbcbamaaGreatDoor
