/-
  WALKS: the next field of a line (package report).
-/
import Derived.Test.YteeekdffbcbamaaGreatDoorG1
namespace Go.Proofs.YteeekdffbcbamaaGreatDoor
open Go.RowKit

/-- strings.Cut at one byte. -/
theorem cut_any (g : ByteArray) (c : UInt8) (w : World) (hs : g.size ≤ 1000000) (n : Nat) (hn : Plain.upto g.data.toList c = n) (R : ByteArray) (hR : Plain.restB g n = R) (fd : Bool) (hf : decide (n < g.size) = fd) :
    Calls Tryz.prog 50 #[.string g, .string ⟨#[c]⟩] w fun e w' => e = .returned (.tuple #[.string (g.extract 0 n), .string R, .bool fd]) ∧ ∃ m, w' = w.drewN m := by
  have hi := Plain.index_upto g.data.toList c
  have hle := Plain.upto_le g.data.toList c
  rw [Plain.len_size, hn] at hi hle
  by_cases hlt : n < g.size
  · rw [if_pos hlt] at hi
    have e1 : R = g.extract (n + 1) g.size := by rw [← hR, Plain.restB, if_pos hlt]
    have e2 : fd = true := by rw [← hf]; simpa using hlt
    rw [e1, e2]
    exact cut_yes g c n w hs hi hlt
  · rw [if_neg hlt] at hi
    have e1 : R = ByteArray.empty := by rw [← hR, Plain.restB, if_neg hlt]
    have e2 : fd = false := by rw [← hf]; simpa using hlt
    have e3 : g.extract 0 n = g := by
      rw [show n = g.size by omega]
      exact ByteArray.extract_zero_size
    rw [e1, e2, e3]
    exact cut_no g c w hi

section
variable (b T : Nat) (s : ByteArray) (a e : Nat) (er ea : Int) (X : Array Value) (w : World)
theorem field_er (more : Bool) (h : Rd w b T s a e more er ea X) (he : er ≠ 0) :
    Calls Tryz.prog 31 #[.pointer (some ⟨b, 0, none⟩)] w fun en w' => en = .returned (.tuple #[.string ⟨#[]⟩, .int .i64 a]) ∧ Rd w' b T s a e more er ea X ∧ w.grownBy w' (some b) := by
  obtain ⟨c0, c1, c2, c3, c4, c5⟩ := h.cells
  have hfr := h.frozen
  have hlt := h.lt
  have HF := Lib.hid (fun (W : World) (h : Rd W b T s a e more er ea X) => fail_any b T s a e more er ea 11 e X W h)
  rw [Plain.fe_no he, Plain.fa_no he] at HF
  have hq : (er != 0) = true := by simpa using he
  have H := Lib.hid h; clear h
  clear he
  cases more
  · go_enter Tryz.func31, Tryz.ntmps31
    go_wp2_with fail
    refine (HF.out _ H.out).mono ?_
    rintro en w1 ⟨rfl, hr1, hg1⟩
    obtain ⟨d0, d1, d2, d3, d4, d5⟩ := hr1.cells
    have HR1 := Lib.hid hr1; clear hr1
    have HG1 := Lib.hid hg1; clear hg1
    clear c0 c1 c2 c3 c4 c5 hfr
    go_wp2_with fail
    go_quiet (fail)
    go_wp2_with fail
    go_ret2
    exact ⟨rfl, HR1.out.drewN _, grown_trans HG1.out (grown_drewN _ _ _)⟩
  · go_enter Tryz.func31, Tryz.ntmps31
    go_wp2_with fail
    go_quiet (fail)
    go_wp2_with fail
    go_ret2
    exact ⟨rfl, H.out.drewN _, grown_drewN _ _ _⟩
theorem field_end (h : Rd w b T s a e false 0 ea X) :
    Calls Tryz.prog 31 #[.pointer (some ⟨b, 0, none⟩)] w fun en w' => en = .returned (.tuple #[.string ⟨#[]⟩, .int .i64 a]) ∧ Rd w' b T s a e false 11 e X ∧ w.grownBy w' (some b) := by
  obtain ⟨c0, c1, c2, c3, c4, c5⟩ := h.cells
  have hfr := h.frozen
  have hlt := h.lt
  have HF := Lib.hid (fun (W : World) (h : Rd W b T s a e false 0 ea X) => fail_any b T s a e false 0 ea 11 e X W h)
  rw [Plain.fe_zero, Plain.fa_zero] at HF
  have H := Lib.hid h; clear h
  go_enter Tryz.func31, Tryz.ntmps31
  go_wp2_with fail
  refine (HF.out _ H.out).mono ?_
  rintro en w1 ⟨rfl, hr1, hg1⟩
  obtain ⟨d0, d1, d2, d3, d4, d5⟩ := hr1.cells
  have HR1 := Lib.hid hr1; clear hr1
  have HG1 := Lib.hid hg1; clear hg1
  clear c0 c1 c2 c3 c4 c5 hfr
  go_wp2_with fail
  go_quiet (fail)
  go_wp2_with fail
  go_ret2
  exact ⟨rfl, HR1.out.drewN _, grown_trans HG1.out (grown_drewN _ _ _)⟩
theorem field_ok (h : Rd w b T s a e true 0 ea X) (hs : s.size ≤ 1000000) (hae : a ≤ e) (hes : e ≤ s.size) (n : Nat) (hn : Plain.fldN s a e = n) (fd : Bool) (hf : decide (a + n < e) = fd) :
    Calls Tryz.prog 31 #[.pointer (some ⟨b, 0, none⟩)] w fun en w' => en = .returned (.tuple #[.string (s.extract a (a + n)), .int .i64 a]) ∧ Rd w' b T s (a + n + 1) e fd 0 ea X ∧ w.grownBy w' (some b) := by
  obtain ⟨c0, c1, c2, c3, c4, c5⟩ := h.cells
  have hfr := h.frozen
  have hlt := h.lt
  have hle := Plain.fldN_le s a e hae hes
  rw [hn] at hle
  have hsz := Plain.extract_size s a e hae hes
  have HC := Lib.hid (fun W => cut_any (s.extract a e) 44 W (by omega) n (by rw [Plain.extract_list]; exact hn) _ rfl fd (by rw [← hf, hsz]; congr 1; exact propext ⟨fun h => by omega, fun h => by omega⟩))
  have hex : (s.extract a e).extract 0 n = s.extract a (a + n) := by
    rw [ByteArray.extract_extract]
    congr 1
    omega
  have hes2 : (s.extract a (a + n)).size = n := by rw [Plain.extract_size s a (a + n) (by omega) (by omega)]; omega
  rw [hex] at HC
  generalize Plain.restB (s.extract a e) n = R at HC
  obtain ⟨F, hF⟩ : ∃ F, s.extract a (a + n) = F := ⟨_, rfl⟩
  rw [hF] at HC hes2 ⊢
  clear hex hsz hf hn
  have H := Lib.hid h; clear h
  have HS2 := Lib.hid hes2
  go_enter Tryz.func31, Tryz.ntmps31
  go_wp2_with fail
  go_quiet ((go_at_call 50; exact Calls.quiet_of (HC.out _)))
  go_wp2_with fail
  go_ret2
  have e1 : ((a : Int) + n + 1) = ((a + n + 1 : Nat) : Int) := by omega
  refine ⟨rfl, ?_, grown_trans (grown_drewN w nq _) (grown_trans (grown_set _ _ _ _) (grown_set _ _ _ _))⟩
  rw [e1]
  exact ((H.out.drewN nq).setAt _).setMore _
end
end Go.Proofs.YteeekdffbcbamaaGreatDoor
