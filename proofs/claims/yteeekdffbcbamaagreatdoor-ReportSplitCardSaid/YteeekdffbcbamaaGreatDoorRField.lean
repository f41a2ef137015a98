/-
  WALKS: the reference's next field.
-/
import Derived.Test.YteeekdffbcbamaaGreatDoorG1
namespace Go.Proofs.YteeekdffbcbamaaGreatDoor
open Go.RowKit

namespace Plain
theorem upto_ne : ∀ (l : List UInt8) (c : UInt8) (i : Nat) (hl : i < l.length), i < upto l c → l[i] ≠ c
  | [], _, _, hl, _ => by simp at hl
  | x :: xs, c, i, hl, h => by
    rw [upto_cons] at h
    by_cases hx : x = c
    · rw [if_pos hx] at h; omega
    · rw [if_neg hx] at h
      cases i with
      | zero => exact hx
      | succ j => exact upto_ne xs c j (by simp at hl; omega) (by omega)
theorem upto_at : ∀ (l : List UInt8) (c : UInt8) (hl : upto l c < l.length), l[upto l c] = c
  | [], _, hl => by simp at hl
  | x :: xs, c, hl => by
    by_cases hx : x = c
    · have e : upto (x :: xs) c = 0 := by rw [upto_cons, if_pos hx]
      simp only [e]
      exact hx
    · have e : upto (x :: xs) c = upto xs c + 1 := by rw [upto_cons, if_neg hx]
      have hl2 : upto xs c < xs.length := by rw [e] at hl; simpa using hl
      have := upto_at xs c hl2
      simp only [e]
      exact this
theorem fld_len (s : ByteArray) (a e : Nat) (h : a ≤ e) (he : e ≤ s.size) : ((s.data.toList.drop a).take (e - a)).length = e - a := by
  rw [List.length_take, List.length_drop, len_size]; omega
theorem fld_get (s : ByteArray) (a e k : Nat) (hk : k < s.size) (hak : a ≤ k) (hl : k - a < ((s.data.toList.drop a).take (e - a)).length) : ((s.data.toList.drop a).take (e - a))[k - a] = s[k] := by
  rw [List.getElem_take, List.getElem_drop]
  have e1 : a + (k - a) = k := by omega
  simp only [e1]
  rfl
theorem fld_ne (s : ByteArray) (a e k : Nat) (h : a ≤ e) (he : e ≤ s.size) (hk : k < s.size) (hak : a ≤ k) (hkn : k < a + fldN s a e) : ¬ ((s[k].toNat : Int) = 44) := by
  have hle := fldN_le s a e h he
  have hl : k - a < ((s.data.toList.drop a).take (e - a)).length := by rw [fld_len s a e h he]; omega
  have := upto_ne ((s.data.toList.drop a).take (e - a)) 44 (k - a) hl (by unfold fldN at hkn; omega)
  rw [fld_get s a e k hk hak hl] at this
  intro h44
  apply this
  exact UInt8.toNat_inj.1 (show s[k].toNat = (44 : UInt8).toNat from by have : (44 : UInt8).toNat = 44 := rfl; omega)
theorem fld_at (s : ByteArray) (a e k : Nat) (h : a ≤ e) (he : e ≤ s.size) (hk : k < s.size) (hkn : k = a + fldN s a e) (hke : k < e) : (s[k].toNat : Int) = 44 := by
  have hl : fldN s a e < ((s.data.toList.drop a).take (e - a)).length := by rw [fld_len s a e h he]; omega
  have h1 := upto_at ((s.data.toList.drop a).take (e - a)) 44 hl
  have h2 := fld_get s a e k hk (by omega) (by rw [fld_len s a e h he]; omega)
  have e1 : k - a = upto ((s.data.toList.drop a).take (e - a)) 44 := by unfold fldN at hkn; omega
  simp only [e1] at h2
  have h3 := h2.symm.trans h1
  rw [h3]
  rfl
/-- How far a reader has yet to go. -/
def todo (e : Nat) (v : Option Value) : Nat := match v with
  | some (.int _ z) => e - z.toNat
  | _ => 0
end Plain

section
variable (b T : Nat) (s : ByteArray) (a e : Nat) (er ea : Int) (X : Array Value) (w : World)
theorem rfield_er (more : Bool) (h : Rd w b T s a e more er ea X) (he : er ≠ 0) :
    Calls Tryz.prog 36 #[.pointer (some ⟨b, 0, none⟩)] w fun en w' => en = .returned (.tuple #[.string ⟨#[]⟩, .int .i64 0]) ∧ Rd w' b T s a e more er ea X ∧ w.grownBy w' (some b) := by
  obtain ⟨c0, c1, c2, c3, c4, c5⟩ := h.cells
  have hq : (er != 0) = true := by simpa using he
  have H := Lib.hid h; clear h
  go_enter Tryz.func36, Tryz.ntmps36
  go_wp2_with fail
  go_ret2
  exact ⟨rfl, H.out, grown_refl _ _⟩
theorem rfield_end (h : Rd w b T s a e false 0 ea X) :
    Calls Tryz.prog 36 #[.pointer (some ⟨b, 0, none⟩)] w fun en w' => en = .returned (.tuple #[.string ⟨#[]⟩, .int .i64 0]) ∧ Rd w' b T s a e false 11 e X ∧ w.grownBy w' (some b) := by
  obtain ⟨c0, c1, c2, c3, c4, c5⟩ := h.cells
  have HF := Lib.hid (rfail_any b T s a e false 0 ea 11 e X w h)
  rw [Plain.fe_zero, Plain.fa_zero] at HF
  clear h
  go_enter Tryz.func36, Tryz.ntmps36
  go_wp2_with fail
  refine HF.out.mono ?_
  rintro en w1 ⟨rfl, hr1, hg1⟩
  have HR1 := Lib.hid hr1; clear hr1
  have HG1 := Lib.hid hg1; clear hg1
  go_wp2_with fail
  go_ret2
  exact ⟨rfl, HR1.out, HG1.out⟩
theorem rfield_ok (h : Rd w b T s a e true 0 ea X) (hs : s.size ≤ 1000000) (hae : a ≤ e) (hes : e ≤ s.size) (n : Nat) (hn : Plain.fldN s a e = n) (fd : Bool) (hf : decide (a + n < e) = fd) :
    Calls Tryz.prog 36 #[.pointer (some ⟨b, 0, none⟩)] w fun en w' => en = .returned (.tuple #[.string (s.extract a (a + n)), .int .i64 a]) ∧ Rd w' b T s (a + n + 1) e fd 0 ea X ∧ w.grownBy w' (some b) := by
  obtain ⟨c0, c1, c2, c3, c4, c5⟩ := h.cells
  have hle := Plain.fldN_le s a e hae hes
  have hne := fun k (hk : k < s.size) => Plain.fld_ne s a e k hae hes hk
  have hat := fun k (hk : k < s.size) => Plain.fld_at s a e k hae hes hk
  rw [hn] at hle hne hat
  have HNE := Lib.hid hne
  have HAT := Lib.hid hat
  have HFD := Lib.hid hf
  clear hne hat hn hf
  have H := Lib.hid h; clear h
  go_enter Tryz.func36, Tryz.ntmps36
  go_wp2_with fail
  clear c0 c1 c2 c3 c4 c5
  go_loopw [] (fun wr => ∃ k : Nat, a ≤ k ∧ k ≤ a + n ∧ Rd wr b T s k e true 0 ea X ∧ w.grownBy wr (some b)) (fun wr => Plain.todo e (wr.cell? ⟨b, 1, none⟩))
  case atStart => exact ⟨a, Nat.le_refl _, by omega, H.out, grown_refl _ _⟩
  case round =>
    obtain ⟨k, hak, hkn, hr, hg⟩ := hrel
    obtain ⟨d0, d1, d2, d3, d4, d5⟩ := hr.cells
    have hfr := hr.frozen
    have hlt := hr.lt
    have HR := Lib.hid hr; clear hr
    have HG := Lib.hid hg; clear hg
    by_cases hlt2 : k < a + n
    · have hks : k < s.size := by omega
      have hke : k < e := by omega
      have h44 := HNE.out k hks hak hlt2
      have hc2 : s[k].toNat < 256 := s[k].toNat_lt
      go_wp2_with fail
      go_quiet (fail)
      go_wp2_with fail
      go_roundw
      case rel => exact ⟨k + 1, by omega, by omega, by have := (HR.out.drewN nq).setAt (k + 1); simpa using this, grown_trans (grown_trans HG.out (grown_drewN _ _ _)) (grown_set _ _ _ _)⟩
      case measure =>
        have d := ((HR.out.drewN nq).setAt (k + 1)).cells.2.1
        have e1 : (((k + 1 : Nat) : Int)) = (k : Int) + 1 := by omega
        rw [e1] at d
        simp only [Plain.todo, d1, d]
        omega
    · have hkan : k = a + n := by omega
      have hfd := HFD.out
      rw [← hkan] at hfd ⊢
      have HK := Lib.hid hkan
      have h44 := fun hks hke => HAT.out k hks hkan hke
      have hke0 : k ≤ e := by omega
      clear hkan hkn hlt2 hak hle
      have hak : a ≤ k := by have := HK.out; omega
      cases fd
      · have hen : ¬ k < e := by simpa using hfd
        obtain rfl : e = k := by omega
        clear hfd h44 hen hke0
        go_wp2_with fail
        go_quiet (fail)
        go_wp2_with fail
        go_quiet (fail)
        go_wp2_with fail
        go_region_with (fail)
        all_goals
          go_wp2_with fail
          go_ret2
          have hk := HK.out
          subst hk
          refine ⟨rfl, ?_, grown_trans (grown_trans (grown_trans HG.out (grown_drewN _ _ _)) (grown_set _ _ _ _)) (grown_set _ _ _ _)⟩
          have e1 : ((a + n : Nat) : Int) + 1 = ((a + n + 1 : Nat) : Int) := by omega
          rw [e1]
          exact ((HR.out.drewN _).setMore false).setAt (a + n + 1)
      · have hen : k < e := by simpa using hfd
        have hks : k < s.size := by omega
        have h44' := h44 hks hen
        have hkle : k ≤ s.size := by omega
        have hc2 : s[k].toNat < 256 := s[k].toNat_lt
        clear hfd h44 hke0
        go_wp2_with fail
        go_quiet (fail)
        go_wp2_with fail
        go_quiet (fail)
        go_wp2_with fail
        go_region_with (fail)
        all_goals
          go_wp2_with fail
          go_ret2
          have hk := HK.out
          subst hk
          refine ⟨rfl, ?_, grown_trans (grown_trans (grown_trans HG.out (grown_drewN _ _ _)) (grown_set _ _ _ _)) (grown_set _ _ _ _)⟩
          have e1 : ((a + n : Nat) : Int) + 1 = ((a + n + 1 : Nat) : Int) := by omega
          rw [e1]
          exact ((HR.out.drewN _).setMore true).setAt (a + n + 1)
end
end Go.Proofs.YteeekdffbcbamaaGreatDoor
