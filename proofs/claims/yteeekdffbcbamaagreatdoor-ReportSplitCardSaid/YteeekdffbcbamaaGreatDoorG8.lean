/-
  PLAIN: the reference's number, which stops counting above the highest bound. WALKS: its number where there is no field.
-/
import Derived.Test.YteeekdffbcbamaaGreatDoorRField
import Derived.Test.YteeekdffbcbamaaGreatDoorG3
import Derived.Test.YteeekdffbcbamaaGreatDoorNumberG
namespace Go.Proofs.YteeekdffbcbamaaGreatDoor
open Go.RowKit

namespace Plain
/-- One digit more; above the bound it stays there. -/
def satD (n : Nat) (c : UInt8) : Nat := if n ≤ 100000000000000000 then 10 * n + (c.toNat - 48) else 1000000000000000001
def satV (acc : Nat) (l : List UInt8) : Nat := l.foldl satD acc
theorem satV_law (l : List UInt8) (acc acc' : Nat) (h : acc = acc' ∨ (1000000000000000000 < acc ∧ 1000000000000000000 < acc')) :
    satV acc l = decV acc' l ∨ (1000000000000000000 < satV acc l ∧ 1000000000000000000 < decV acc' l) := by
  induction l generalizing acc acc' with
  | nil => exact h
  | cons c r ih =>
    refine ih (satD acc c) (acc' * 10 + (c.toNat - 48)) ?_
    unfold satD
    by_cases h1 : acc ≤ 100000000000000000
    · rw [if_pos h1]
      rcases h with rfl | ⟨h2, h3⟩
      · exact Or.inl (by omega)
      · omega
    · rw [if_neg h1]
      rcases h with rfl | ⟨h2, h3⟩
      · exact Or.inr ⟨by omega, by omega⟩
      · exact Or.inr ⟨by omega, by omega⟩
theorem satV_zero (l : List UInt8) : satV 0 l = decV 0 l ∨ (1000000000000000000 < satV 0 l ∧ 1000000000000000000 < decV 0 l) := satV_law l 0 0 (Or.inl rfl)
theorem satD_lt (n : Nat) (c : UInt8) (hc : c.toNat ≤ 57) : satD n c < 1000000000000000010 := by
  unfold satD
  split <;> omega
end Plain

section
variable (b T : Nat) (s : ByteArray) (a e : Nat) (er ea : Int) (X : Array Value) (w : World) (lo hi wr : Int)
theorem rnumber_er (more : Bool) (h : Rd w b T s a e more er ea X) (he : er ≠ 0) :
    Calls Tryz.prog 37 #[.pointer (some ⟨b, 0, none⟩), .int .i64 lo, .int .i64 hi, .int .i64 wr] w fun en w' => en = .returned (.int .i64 0) ∧ Rd w' b T s a e more er ea X ∧ w.grownBy w' (some b) := by
  have HF := Lib.hid (rfield_er b T s a e er ea X w more h he)
  have hq : (er != 0) = true := by simpa using he
  clear h he
  go_enter Tryz.func37, Tryz.ntmps37
  go_wp2_with fail
  refine HF.out.mono ?_
  rintro en w1 ⟨rfl, hr1, hg1⟩
  obtain ⟨d0, d1, d2, d3, d4, d5⟩ := hr1.cells
  have HR1 := Lib.hid hr1; clear hr1
  have HG1 := Lib.hid hg1; clear hg1
  go_wp2_with fail
  go_ret
  exact ⟨rfl, HR1.out, HG1.out⟩
theorem rnumber_end (h : Rd w b T s a e false 0 ea X) :
    Calls Tryz.prog 37 #[.pointer (some ⟨b, 0, none⟩), .int .i64 lo, .int .i64 hi, .int .i64 wr] w fun en w' => en = .returned (.int .i64 0) ∧ Rd w' b T s a e false 11 e X ∧ w.grownBy w' (some b) := by
  have HF := Lib.hid (rfield_end b T s a e ea X w h)
  clear h
  go_enter Tryz.func37, Tryz.ntmps37
  go_wp2_with fail
  refine HF.out.mono ?_
  rintro en w1 ⟨rfl, hr1, hg1⟩
  obtain ⟨d0, d1, d2, d3, d4, d5⟩ := hr1.cells
  have HR1 := Lib.hid hr1; clear hr1
  have HG1 := Lib.hid hg1; clear hg1
  go_wp2_with fail
  go_ret
  exact ⟨rfl, HR1.out, HG1.out⟩
end
end Go.Proofs.YteeekdffbcbamaaGreatDoor
/-
  WALKS: the reference's number where the field is empty.
-/
namespace Go.Proofs.YteeekdffbcbamaaGreatDoor
open Go.RowKit
theorem rnumber_empty (b T : Nat) (s : ByteArray) (a e : Nat) (ea : Int) (X : Array Value) (w : World) (lo hi wr : Int) (h : Rd w b T s a e true 0 ea X) (hs : s.size ≤ 1000000) (hae : a ≤ e) (hes : e ≤ s.size) (n : Nat) (hn : Plain.fldN s a e = n) (fd : Bool) (hf : decide (a + n < e) = fd) (hF : s.extract a (a + n) = ⟨#[]⟩) :
    Calls Tryz.prog 37 #[.pointer (some ⟨b, 0, none⟩), .int .i64 lo, .int .i64 hi, .int .i64 wr] w fun en w' => en = .returned (.int .i64 0) ∧ Rd w' b T s (a + n + 1) e fd 11 a X ∧ w.grownBy w' (some b) := by
  have HF := Lib.hid (rfield_ok b T s a e ea X w h hs hae hes n hn fd hf)
  rw [hF] at HF
  have HFl := Lib.hid (fun W c (h : Rd W b T s (a + n + 1) e fd 0 ea X) => rfail_any b T s (a + n + 1) e fd 0 ea c a X W h)
  simp only [Plain.fe_zero, Plain.fa_zero] at HFl
  clear h hn hf hF
  go_enter Tryz.func37, Tryz.ntmps37
  go_wp2_with fail
  refine HF.out.mono ?_
  rintro en w1 ⟨rfl, hr1, hg1⟩
  obtain ⟨d0, d1, d2, d3, d4, d5⟩ := hr1.cells
  have HR1 := Lib.hid hr1; clear hr1
  have HG1 := Lib.hid hg1; clear hg1
  go_wp2_with fail
  go_loop [12, 13, 14] (fun o m i => i = .int .i64 0 ∧ m = .int .i64 0 ∧ o = .bool false) (fun _ _ _ => 0)
  case atStart => exact ⟨rfl, rfl, rfl⟩
  case round =>
    obtain ⟨rfl, rfl, rfl⟩ := hrel
    go_wp2_with fail
    refine (HFl.out _ 11 HR1.out).mono ?_
    rintro en w2 ⟨rfl, hr2, hg2⟩
    go_wp2_with fail
    go_ret
    exact ⟨rfl, hr2, grown_trans HG1.out hg2⟩
end Go.Proofs.YteeekdffbcbamaaGreatDoor
/-
  WALKS: the reference's number where the field is too long.
-/
namespace Go.Proofs.YteeekdffbcbamaaGreatDoor
open Go.RowKit
theorem rnumber_long (b T : Nat) (s : ByteArray) (a e : Nat) (ea : Int) (X : Array Value) (w : World) (lo hi wr : Int) (h : Rd w b T s a e true 0 ea X) (hs : s.size ≤ 1000000) (hae : a ≤ e) (hes : e ≤ s.size) (n : Nat) (hn : Plain.fldN s a e = n) (fd : Bool) (hf : decide (a + n < e) = fd) (F : ByteArray) (hF : s.extract a (a + n) = F) (h0 : 0 < F.size) (h45 : ¬ (F[0].toNat : Int) = 45) (h19 : (19 : Int) < F.size) :
    Calls Tryz.prog 37 #[.pointer (some ⟨b, 0, none⟩), .int .i64 lo, .int .i64 hi, .int .i64 wr] w fun en w' => en = .returned (.int .i64 0) ∧ Rd w' b T s (a + n + 1) e fd 11 a X ∧ w.grownBy w' (some b) := by
  have HF := Lib.hid (rfield_ok b T s a e ea X w h hs hae hes n hn fd hf)
  rw [hF] at HF
  have HFl := Lib.hid (fun W c (h : Rd W b T s (a + n + 1) e fd 0 ea X) => rfail_any b T s (a + n + 1) e fd 0 ea c a X W h)
  simp only [Plain.fe_zero, Plain.fa_zero] at HFl
  have hc0 : F[0].toNat < 256 := F[0].toNat_lt
  have h0' : (0 : Int) < F.size := by omega
  clear h hn hf hF
  go_enter Tryz.func37, Tryz.ntmps37
  go_wp2_with fail
  refine HF.out.mono ?_
  rintro en w1 ⟨rfl, hr1, hg1⟩
  obtain ⟨d0, d1, d2, d3, d4, d5⟩ := hr1.cells
  have HR1 := Lib.hid hr1; clear hr1
  have HG1 := Lib.hid hg1; clear hg1
  go_wp2_with fail
  go_loop [12, 13, 14] (fun o m i => i = .int .i64 0 ∧ m = .int .i64 0 ∧ o = .bool false) (fun _ _ _ => 0)
  case atStart => exact ⟨rfl, rfl, rfl⟩
  case round =>
    obtain ⟨rfl, rfl, rfl⟩ := hrel
    go_wp2_with fail
    refine (HFl.out _ 11 HR1.out).mono ?_
    rintro en w2 ⟨rfl, hr2, hg2⟩
    go_wp2_with fail
    go_ret
    exact ⟨rfl, hr2, grown_trans HG1.out hg2⟩
end Go.Proofs.YteeekdffbcbamaaGreatDoor
/-
  WALKS: the reference's number where the field is led by a zero.
-/
namespace Go.Proofs.YteeekdffbcbamaaGreatDoor
open Go.RowKit
theorem rnumber_lead (b T : Nat) (s : ByteArray) (a e : Nat) (ea : Int) (X : Array Value) (w : World) (lo hi wr : Int) (h : Rd w b T s a e true 0 ea X) (hs : s.size ≤ 1000000) (hae : a ≤ e) (hes : e ≤ s.size) (n : Nat) (hn : Plain.fldN s a e = n) (fd : Bool) (hf : decide (a + n < e) = fd) (F : ByteArray) (hF : s.extract a (a + n) = F) (h0 : 0 < F.size) (h48 : (F[0].toNat : Int) = 48) (hne : ¬ F.toList = [48]) (h19 : (F.size : Int) ≤ 19) :
    Calls Tryz.prog 37 #[.pointer (some ⟨b, 0, none⟩), .int .i64 lo, .int .i64 hi, .int .i64 wr] w fun en w' => en = .returned (.int .i64 0) ∧ Rd w' b T s (a + n + 1) e fd 11 a X ∧ w.grownBy w' (some b) := by
  have HF := Lib.hid (rfield_ok b T s a e ea X w h hs hae hes n hn fd hf)
  rw [hF] at HF
  have HFl := Lib.hid (fun W c (h : Rd W b T s (a + n + 1) e fd 0 ea X) => rfail_any b T s (a + n + 1) e fd 0 ea c a X W h)
  simp only [Plain.fe_zero, Plain.fa_zero] at HFl
  have hc0 : F[0].toNat < 256 := F[0].toNat_lt
  have h0' : (0 : Int) < F.size := by omega
  have hne2 : (F.toList == [48]) = false := by simpa using hne
  clear h hn hf hF
  go_enter Tryz.func37, Tryz.ntmps37
  go_wp2_with fail
  refine HF.out.mono ?_
  rintro en w1 ⟨rfl, hr1, hg1⟩
  obtain ⟨d0, d1, d2, d3, d4, d5⟩ := hr1.cells
  have HR1 := Lib.hid hr1; clear hr1
  have HG1 := Lib.hid hg1; clear hg1
  go_wp2_with fail
  go_loop [12, 13, 14] (fun o m i => i = .int .i64 0 ∧ m = .int .i64 0 ∧ o = .bool false) (fun _ _ _ => 0)
  case atStart => exact ⟨rfl, rfl, rfl⟩
  case round =>
    obtain ⟨rfl, rfl, rfl⟩ := hrel
    go_wp2_with fail
    refine (HFl.out _ 11 HR1.out).mono ?_
    rintro en w2 ⟨rfl, hr2, hg2⟩
    go_wp2_with fail
    go_ret
    exact ⟨rfl, hr2, grown_trans HG1.out hg2⟩
end Go.Proofs.YteeekdffbcbamaaGreatDoor
/-
  WALKS: the reference's number (exploration of its loop).
-/
namespace Go.Proofs.YteeekdffbcbamaaGreatDoor
open Go.RowKit
theorem rnumber_ok (b T : Nat) (s : ByteArray) (a e : Nat) (ea : Int) (X : Array Value) (w : World) (lo hi wr : Int) (h : Rd w b T s a e true 0 ea X) (hs : s.size ≤ 1000000) (hae : a ≤ e) (hes : e ≤ s.size) (n : Nat) (hn : Plain.fldN s a e = n) (fd : Bool) (hf : decide (a + n < e) = fd) (F : ByteArray) (hF : s.extract a (a + n) = F)
    (h0 : 0 < F.size) (h45 : ¬ (F[0].toNat : Int) = 45) (h19 : (F.size : Int) ≤ 19) (h48 : ¬ (F[0].toNat : Int) = 48) (hall : ∀ k (hk : k < F.size), (48 : Int) ≤ F[k].toNat ∧ (F[k].toNat : Int) ≤ 57) (hlh : lo ≤ hi) (hwr : wr ≠ 0) (E : Int) (hE : E = if (Plain.satV 0 F.data.toList : Int) < lo then 2 else if hi < (Plain.satV 0 F.data.toList : Int) then wr else 0) :
    Calls Tryz.prog 37 #[.pointer (some ⟨b, 0, none⟩), .int .i64 lo, .int .i64 hi, .int .i64 wr] w fun en w' => en = .returned (.int .i64 (Plain.satV 0 F.data.toList : Nat)) ∧ Rd w' b T s (a + n + 1) e fd E (Plain.na E ea a) X ∧ w.grownBy w' (some b) := by
  have HF := Lib.hid (rfield_ok b T s a e ea X w h hs hae hes n hn fd hf)
  rw [hF] at HF
  have h1 : ¬ F.toList = [] := by rw [ByteArray.toList_eq]; intro e; have := Plain.len_size F; rw [e] at this; simp at this; omega
  have hc0 : F[0].toNat < 256 := F[0].toNat_lt
  have h0' : (0 : Int) < F.size := by omega
  have HAL := Lib.hid hall
  have HFl := Lib.hid (fun W c (h : Rd W b T s (a + n + 1) e fd 0 ea X) => rfail_any b T s (a + n + 1) e fd 0 ea c a X W h)
  simp only [Plain.fe_zero, Plain.fa_zero] at HFl
  have HT := Lib.hid (Plain.take_all F)
  obtain ⟨v, hv⟩ : ∃ v, Plain.satV 0 F.data.toList = v := ⟨_, rfl⟩
  rw [hv] at hE ⊢
  have HVV := Lib.hid hv; clear hv
  have HE := Lib.hid hE; clear hE
  clear h hn hf hF hall
  go_enter Tryz.func37, Tryz.ntmps37
  go_wp2_with fail
  refine HF.out.mono ?_
  rintro en w1 ⟨rfl, hr1, hg1⟩
  obtain ⟨d0, d1, d2, d3, d4, d5⟩ := hr1.cells
  have HR1 := Lib.hid hr1; clear hr1
  have HG1 := Lib.hid hg1; clear hg1
  go_wp2_with fail
  go_loop [12, 13, 14] (fun o m i => ∃ k z : Nat, k ≤ F.size ∧ z < 1000000000000000010 ∧ i = .int .i64 k ∧ m = .int .i64 z ∧ o = .bool true ∧ Hid (Plain.satV 0 (F.data.toList.take k) = z)) (fun _ _ i => F.size - (intOf i).toNat)
  case atStart => exact ⟨0, 0, Nat.zero_le _, by omega, rfl, rfl, rfl, Lib.hid rfl⟩
  case round =>
    obtain ⟨k, z, hk, hz, rfl, rfl, rfl, hS⟩ := hrel
    by_cases hlt : k < F.size
    · obtain ⟨hlo, hhi⟩ := HAL.out k hlt
      have hc2 : F[k].toNat < 256 := F[k].toNat_lt
      have hst : Plain.satV 0 (F.data.toList.take (k + 1)) = Plain.satD z F[k] := by
        rw [← hS.out]
        have hl : k < F.data.toList.length := by rw [Plain.len_size]; exact hlt
        rw [← List.take_append_getElem hl]
        unfold Plain.satV
        rw [List.foldl_append]
        rfl
      by_cases hb : z ≤ 100000000000000000
      · have HS := Lib.hid (show Plain.satV 0 (F.data.toList.take (k + 1)) = 10 * z + (F[k].toNat - 48) by rw [hst, Plain.satD, if_pos hb])
        clear hst
        have hb' : (z : Int) ≤ 100000000000000000 := by omega
        go_wp2_with fail
        go_round
        case rel => exact ⟨k + 1, 10 * z + (F[k].toNat - 48), by omega, by omega, by go_num, by (congr 1; omega), rfl, HS⟩
        case measure => simp [intOf]; omega
      · have HS := Lib.hid (show Plain.satV 0 (F.data.toList.take (k + 1)) = 1000000000000000001 by rw [hst, Plain.satD, if_neg hb])
        clear hst
        have hb' : (100000000000000000 : Int) < z := by omega
        go_wp2_with fail
        go_round
        case rel => exact ⟨k + 1, 1000000000000000001, by omega, by omega, by go_num, rfl, rfl, HS⟩
        case measure => simp [intOf]; omega
    · obtain rfl : k = F.size := by omega
      have hzv : z = v := by rw [← hS.out, HT.out, HVV.out]
      subst hzv
      by_cases c1 : (z : Int) < lo
      · have hE := HE.out
        rw [if_pos c1] at hE
        have HE2 := Lib.hid hE; clear hE
        have c2 : (z : Int) ≤ hi := by omega
        go_wp2_with fail
        refine (HFl.out _ 2 HR1.out).mono ?_
        rintro en w2 ⟨rfl, hr2, hg2⟩
        go_wp2_with fail
        go_ret
        refine ⟨rfl, ?_, grown_trans HG1.out hg2⟩
        rw [HE2.out]
        exact hr2
      · have hE := HE.out
        rw [if_neg c1] at hE
        have c1' : lo ≤ (z : Int) := by omega
        by_cases c2 : hi < (z : Int)
        · rw [if_pos c2] at hE
          have HE2 := Lib.hid hE; clear hE
          go_wp2_with fail
          refine (HFl.out _ wr HR1.out).mono ?_
          rintro en w2 ⟨rfl, hr2, hg2⟩
          go_wp2_with fail
          go_ret
          refine ⟨rfl, ?_, grown_trans HG1.out hg2⟩
          rw [HE2.out, Plain.na, if_neg hwr]
          exact hr2
        · rw [if_neg c2] at hE
          have HE2 := Lib.hid hE; clear hE
          have c2' : (z : Int) ≤ hi := by omega
          go_wp2_with fail
          go_ret
          refine ⟨rfl, ?_, HG1.out⟩
          rw [HE2.out]
          exact HR1.out
end Go.Proofs.YteeekdffbcbamaaGreatDoor
