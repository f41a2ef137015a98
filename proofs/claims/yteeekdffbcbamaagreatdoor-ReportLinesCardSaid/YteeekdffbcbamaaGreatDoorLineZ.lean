/-
  WALKS, joined: the line of any sentence (package report).
-/
import Derived.Test.YteeekdffbcbamaaGreatDoorLineK1
import Derived.Test.YteeekdffbcbamaaGreatDoorLineK2
import Derived.Test.YteeekdffbcbamaaGreatDoorLineK3
namespace Go.Proofs.YteeekdffbcbamaaGreatDoor
open Go.RowKit

theorem oneI_range (b : Bool) : 0 ≤ oneI b ∧ oneI b ≤ 1 := by cases b <;> decide
theorem line_ok (x : Plain.Sn) (A : Option Addr) (c : Nat) (w : World) (he : Env w) (hN : PrL w A x.prns) (h0 : Plain.checkE x = 0) :
    Calls Tryz.prog 40 #[.agg (snCells x (.slice A x.prns.length c))] w fun en w' => en = .returned (.string (lineB x)) ∧ Below w.heap.size w w' := by
  have ht := Plain.zero_time h0
  have ho := oneI_range x.ok
  rcases Plain.zero_kind h0 with hk | hk | hk
  · obtain ⟨_, h2, h3, h4⟩ := Plain.zero_1 h0 hk
    refine line_fix x A _ c w he hk (fun z hz => ?_) rfl h3 hN
    have hl := Plain.level_range h2
    simp only [List.mem_append] at hz
    rcases hz with ((hz | hz) | hz) | hz
    · simp at hz
      omega
    · have := hl z (by simp at hz ⊢; omega)
      omega
    · have := hl z (by simp at hz ⊢; omega)
      omega
    · have := Plain.prnsE_range h4 z hz
      omega
  · obtain ⟨_, h2, h3, h4⟩ := Plain.zero_2 h0 hk
    refine line_chan x A _ c w he hk (fun z hz => ?_)
    simp at hz
    omega
  · obtain ⟨_, h2⟩ := Plain.zero_3 h0 hk
    have := (Plain.text_le h2).1
    rw [Plain.len_size] at this
    exact line_text x A _ c w he hk ht this
/-- What Line comes to. -/
noncomputable def lineR (x : Plain.Sn) : ByteArray × Int := if Plain.checkE x = 0 then (lineB x, 0) else (⟨#[]⟩, Plain.checkE x)
def LinePost (w : World) (r : ByteArray × Int) (en : Ending) (w' : World) : Prop := en = .returned (.tuple #[.string r.1, .int .i64 r.2]) ∧ Below w.heap.size w w'
set_option maxHeartbeats 1000000 in
theorem line_any (x : Plain.Sn) (A : Option Addr) (c : Nat) (w : World) (he : Env w) (hN : PrL w A x.prns) (hs : x.text.size ≤ 1000000) (hn : x.prns.length ≤ 9223372036854775807) :
    Calls Tryz.prog 19 #[.agg (snCells x (.slice A x.prns.length c))] w (LinePost w (lineR x)) := by
  have HC := Lib.hid (fun W hN => check_any x A c W hN hs hn)
  have HL := Lib.hid (fun W he hN h0 => line_ok x A c W he hN h0)
  obtain ⟨r, hr⟩ : ∃ r, Plain.checkE x = r := ⟨_, rfl⟩
  have hlr : lineR x = if r = 0 then (lineB x, 0) else (⟨#[]⟩, r) := by unfold lineR; rw [hr]
  rw [hlr]
  rw [hr] at HC HL
  clear hlr hr
  have HE := Lib.hid (he.below ((Below.refl _ _).alloc (Nat.le_refl w.heap.size) (.cells (snCells x (.slice A x.prns.length c)) 28)) he.1)
  have HN := Lib.hid (hN.below ((Below.refl _ _).alloc (Nat.le_refl w.heap.size) (.cells (snCells x (.slice A x.prns.length c)) 28)) (Nat.le_refl _))
  unfold snCells at *
  generalize x.prns.length = n at *
  clear he hN hs hn
  by_cases h0 : r = 0
  · rw [if_pos h0]
    subst h0
    go_enter Tryz.func19, Tryz.ntmps19
    go_wp2_with fail
    refine (HC.out _ HN.out).mono ?_
    rintro en w1 ⟨rfl, hb1⟩
    obtain ⟨k0, k1, k2, k3, k4, k5, k6, k7, k8, k9, k10, k11, k12, k13⟩ := Blk.cells14 (Blk.below (Blk.new_at (w := w) (t := 28) rfl) hb1 (by simp))
    have HB1 := Lib.hid hb1; clear hb1
    go_wp2_with fail
    refine (HL.out _ (HE.out.below HB1.out (by have := HE.out.1; exact this)) (HN.out.below HB1.out (Nat.le_refl _)) (by trivial)).mono ?_
    rintro en w2 ⟨rfl, hb2⟩
    have HB2 := Lib.hid hb2; clear hb2
    go_wp2_with fail
    go_ret2
    exact ⟨rfl, one_alloc (HB1.out.trans (HB2.out.mono HB1.out.size))⟩
  · rw [if_neg h0]
    have hq : (r != 0) = true := by simpa using h0
    clear h0
    go_enter Tryz.func19, Tryz.ntmps19
    go_wp2_with fail
    refine (HC.out _ HN.out).mono ?_
    rintro en w1 ⟨rfl, hb1⟩
    have HB1 := Lib.hid hb1; clear hb1
    go_wp2_with fail
    go_ret2
    exact ⟨rfl, one_alloc HB1.out⟩
end Go.Proofs.YteeekdffbcbamaaGreatDoor
