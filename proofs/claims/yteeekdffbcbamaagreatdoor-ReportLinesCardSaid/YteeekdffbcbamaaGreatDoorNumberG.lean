/-
  WALKS: the next number of a line (package report), where the field is a number.
-/
import Derived.Test.YteeekdffbcbamaaGreatDoorNumber
namespace Go.Proofs.YteeekdffbcbamaaGreatDoor
open Go.RowKit

namespace Plain
/-- Where the fault is noted. -/
def na (E ea a : Int) : Int := if E = 0 then ea else a
end Plain

set_option maxHeartbeats 4000000 in
theorem number_good (b T : Nat) (s : ByteArray) (a e : Nat) (ea : Int) (X : Array Value) (w : World) (lo hi wr : Int) (h : Rd w b T s a e true 0 ea X) (hs : s.size ≤ 1000000) (hae : a ≤ e) (hes : e ≤ s.size) (n : Nat) (hn : Plain.fldN s a e = n) (fd : Bool) (hf : decide (a + n < e) = fd) (F : ByteArray) (hF : s.extract a (a + n) = F) (hb : Plain.badB F.data.toList = false)
    (hlo : -1000000000000000000 ≤ lo) (hlh : lo ≤ hi) (hhi : hi ≤ 1000000000000000000) (hwr : wr ≠ 0) (te : TypeId) (pe : Value) (hV : w.cell? ⟨2, 0, none⟩ = some (.iface te pe)) (hbE : 2 < b) (E : Int) (hE : Plain.numE F.data.toList lo hi wr = E) :
    Calls Tryz.prog 33 #[.pointer (some ⟨b, 0, none⟩), .int .i64 lo, .int .i64 hi, .int .i64 wr] w fun en w' => ∃ z, en = .returned (.int .i64 z) ∧ (E = 0 → z = Plain.numV F.data.toList) ∧ Rd w' b T s (a + n + 1) e fd E (Plain.na E ea a) X ∧ w.grownBy w' (some b) := by
  have HF := Lib.hid (field_ok b T s a e ea X w h hs hae hes n hn fd hf)
  have hFs : F.size ≤ 1000000 := by rw [← hF, ByteArray.size_extract]; omega
  rw [hF] at HF
  obtain ⟨D, hD⟩ : ∃ D, (⟨(Plain.body F.data.toList).toArray⟩ : ByteArray) = D := ⟨_, rfl⟩
  have HT := Lib.hid (fun W => trimPrefix_any F W D hD)
  have hDl : D.data.toList = Plain.body F.data.toList := by rw [← hD]
  have hDs : D.size ≤ F.size := by
    rw [← Plain.len_size, ← Plain.len_size, hDl]
    unfold Plain.body
    split <;> simp
  have HFl := Lib.hid (fun W c (h : Rd W b T s (a + n + 1) e fd 0 ea X) => fail_any b T s (a + n + 1) e fd 0 ea c a X W h)
  simp only [Plain.fe_zero, Plain.fa_zero] at HFl
  obtain ⟨p1, p2, p3, p4⟩ := Plain.bad_parts hb
  rw [← hDl] at p1 p2 p3 p4
  rw [Plain.len_size] at p2
  have h0 := size_pos p1
  have hF0 : 0 < F.size := by omega
  have h1 : ¬ D.toList = [] := by rw [ByteArray.toList_eq]; exact p1
  have hfirst : (D[0].toNat = 48 ∧ F.toList = [48]) ∨ ¬ D[0].toNat = 48 := by
    by_cases hz : D[0].toNat = 48
    · refine Or.inl ⟨hz, ?_⟩
      rw [ByteArray.toList_eq]
      exact p3 (by rw [head_zero D h0, UInt8.toNat_inj.1 (show D[0].toNat = (48 : UInt8).toNat from hz)])
    · exact Or.inr hz
  obtain ⟨R, hR⟩ : ∃ R, (⟨(Lib.trimS D.data.toList Plain.digits).toArray⟩ : ByteArray) = R := ⟨_, rfl⟩
  have HTr := Lib.hid (fun W => trim_any D W (by omega) R hR)
  have hR0 : R.toList = [] := by rw [← hR, ByteArray.toList_eq, (Plain.trim_empty D.data.toList).2 p4]
  have hR1 : (!R.toList.isEmpty) = false := by rw [hR0]; rfl
  clear hR
  obtain ⟨v, hv⟩ : ∃ v, Plain.numV F.data.toList = v := ⟨_, rfl⟩
  have HA1 := Lib.hid (fun W => atoi_ok F W hFs hb v hv)
  have HA2 := Lib.hid (fun W => atoi_range F W hFs hb v hv)
  have hnum : E = if v < lo then 2 else if hi < v then wr else 0 := by
    rw [← hE, Plain.numE, hb, hv]
    rfl
  have hsgn : (F[0].toNat = 45 ∧ v ≤ 0) ∨ (¬ F[0].toNat = 45 ∧ 0 ≤ v) := by
    have hh := head_zero F hF0
    rw [← hv]
    unfold Plain.numV
    cases hneg : Plain.negB F.data.toList
    · refine Or.inr ⟨fun e45 => ?_, ?_⟩
      · unfold Plain.negB at hneg
        rw [hh, UInt8.toNat_inj.1 (show F[0].toNat = (45 : UInt8).toNat from e45)] at hneg
        cases hneg
      · simp
    · refine Or.inl ⟨?_, ?_⟩
      · unfold Plain.negB at hneg
        rw [hh] at hneg
        have : F[0] = 45 := by simpa using hneg
        rw [this]
        rfl
      · simp
  rw [hv]
  have HV := Lib.hid hV; clear hV
  clear h hF hD hn hf hb hDl hE hv p1 p3 p4
  have h2' : (D.size : Int) ≤ 19 := by omega
  have h1b : D.toList.isEmpty = false := by cases hl : D.toList with
    | nil => exact absurd hl h1
    | cons x l => rfl
  have h1c : (D.toList.isEmpty || decide (19 < (D.size : Int))) = false := by
    rw [h1b, decide_eq_false (by omega)]; rfl
  have hcase : (v < lo ∧ -9223372036854775808 ≤ v ∧ v < 9223372036854775808 ∧ E = 2) ∨ (¬ v < lo ∧ hi < v ∧ v < 9223372036854775808 ∧ E = wr) ∨ (¬ v < lo ∧ ¬ hi < v ∧ E = 0) ∨ (v < -9223372036854775808 ∧ E = 2 ∧ F[0].toNat = 45) ∨ (9223372036854775808 ≤ v ∧ E = wr ∧ ¬ F[0].toNat = 45) := by
    by_cases c1 : v < lo
    · rw [if_pos c1] at hnum
      by_cases c2 : -9223372036854775808 ≤ v
      · exact Or.inl ⟨c1, c2, by omega, hnum⟩
      · exact Or.inr (Or.inr (Or.inr (Or.inl ⟨by omega, hnum, by omega⟩)))
    · rw [if_neg c1] at hnum
      by_cases c2 : hi < v
      · rw [if_pos c2] at hnum
        by_cases c3 : v < 9223372036854775808
        · exact Or.inr (Or.inl ⟨c1, c2, c3, hnum⟩)
        · exact Or.inr (Or.inr (Or.inr (Or.inr ⟨by omega, hnum, by omega⟩)))
      · rw [if_neg c2] at hnum
        exact Or.inr (Or.inr (Or.inl ⟨c1, c2, hnum⟩))
  have HCS := Lib.hid hcase
  clear hcase hnum hsgn
  go_enter Tryz.func33, Tryz.ntmps33
  go_wp2_with fail
  refine HF.out.mono ?_
  rintro en w1 ⟨rfl, hr1, hg1⟩
  obtain ⟨d0, d1, d2, d3, d4, d5⟩ := hr1.cells
  have HR1 := Lib.hid hr1; clear hr1
  have HG1 := Lib.hid hg1; clear hg1
  go_wp2_with fail
  refine (HT.out _).mono ?_
  rintro en w2 ⟨rfl, rfl⟩
  rcases hfirst with ⟨z1, z2⟩ | z1
  all_goals
    have z1' := Lib.hid z1; clear z1
    first
      | (have z3 : (D[0].toNat : Int) = 48 := (by have := z1'.out; omega))
      | (have z3 : ¬ (D[0].toNat : Int) = 48 := (by have := z1'.out; omega))
    go_wp2_with fail
    refine (HTr.out _).mono ?_
    rintro en w2 ⟨rfl, hb2⟩
    have HG2 := Lib.hid (grown_below hb2); clear hb2
    have HR2 := Lib.hid (HR1.out.grown HG2.out (by simp))
    have HV2 := Lib.hid (HG2.out.cell (HG1.out.cell HV.out (by simp; omega)) (by simp))
    clear d0 d1 d2 d3 d4 d5
    go_wp2_with fail
    rcases HCS.out with ⟨c1, c2, c3, c4⟩ | ⟨c1, c2, c3, c4⟩ | ⟨c1, c2, c4⟩ | ⟨c1, c4, c5⟩ | ⟨c1, c4, c5⟩
    · have HE := Lib.hid c4; clear c4
      refine (HA1.out _ c2 c3).mono ?_
      rintro en w3 ⟨rfl, hb3⟩
      have HG3 := Lib.hid (grown_below hb3); clear hb3
      have HR3 := Lib.hid (HR2.out.grown HG3.out (by simp))
      go_wp2_with fail
      refine (HFl.out _ 2 HR3.out).mono ?_
      rintro en w4 ⟨rfl, hr4, hg4⟩
      go_wp2_with fail
      go_ret
      refine ⟨v, rfl, fun _ => rfl, ?_, grown_trans (grown_trans (grown_trans HG1.out (grown_none HG2.out)) (grown_none HG3.out)) hg4⟩
      rw [HE.out]
      exact hr4
    · have HE := Lib.hid c4; clear c4
      refine (HA1.out _ (by omega) c3).mono ?_
      rintro en w3 ⟨rfl, hb3⟩
      have HG3 := Lib.hid (grown_below hb3); clear hb3
      have HR3 := Lib.hid (HR2.out.grown HG3.out (by simp))
      go_wp2_with fail
      refine (HFl.out _ wr HR3.out).mono ?_
      rintro en w4 ⟨rfl, hr4, hg4⟩
      go_wp2_with fail
      go_ret
      refine ⟨v, rfl, fun _ => rfl, ?_, grown_trans (grown_trans (grown_trans HG1.out (grown_none HG2.out)) (grown_none HG3.out)) hg4⟩
      rw [HE.out, Plain.na, if_neg hwr]
      exact hr4
    · have HE := Lib.hid c4; clear c4
      refine (HA1.out _ (by omega) (by omega)).mono ?_
      rintro en w3 ⟨rfl, hb3⟩
      have HG3 := Lib.hid (grown_below hb3); clear hb3
      have HR3 := Lib.hid (HR2.out.grown HG3.out (by simp))
      go_wp2_with fail
      go_ret
      refine ⟨v, rfl, fun _ => rfl, ?_, grown_trans (grown_trans HG1.out (grown_none HG2.out)) (grown_none HG3.out)⟩
      rw [HE.out]
      exact HR3.out
    · have HE := Lib.hid c4; clear c4
      have z5 : (F[0].toNat : Int) = 45 := by omega
      clear c5
      refine (HA2.out _ (by omega) te pe HV2.out).mono ?_
      rintro en w3 ⟨z, t, p, rfl, hb3⟩
      have HG3 := Lib.hid (grown_below hb3); clear hb3
      have HR3 := Lib.hid (HR2.out.grown HG3.out (by simp))
      go_wp2_with fail
      refine (HFl.out _ 2 HR3.out).mono ?_
      rintro en w4 ⟨rfl, hr4, hg4⟩
      go_wp2_with fail
      go_ret
      refine ⟨z, rfl, ?_, ?_, grown_trans (grown_trans (grown_trans HG1.out (grown_none HG2.out)) (grown_none HG3.out)) hg4⟩
      · rw [HE.out]; intro h; cases h
      · rw [HE.out]
        exact hr4
    · have HE := Lib.hid c4; clear c4
      have z5 : ¬ (F[0].toNat : Int) = 45 := by omega
      clear c5
      refine (HA2.out _ (by omega) te pe HV2.out).mono ?_
      rintro en w3 ⟨z, t, p, rfl, hb3⟩
      have HG3 := Lib.hid (grown_below hb3); clear hb3
      have HR3 := Lib.hid (HR2.out.grown HG3.out (by simp))
      go_wp2_with fail
      refine (HFl.out _ wr HR3.out).mono ?_
      rintro en w4 ⟨rfl, hr4, hg4⟩
      go_wp2_with fail
      go_ret
      refine ⟨z, rfl, ?_, ?_, grown_trans (grown_trans (grown_trans HG1.out (grown_none HG2.out)) (grown_none HG3.out)) hg4⟩
      · rw [HE.out]; intro h; exact absurd h hwr
      · rw [HE.out, Plain.na, if_neg hwr]
        exact hr4
end Go.Proofs.YteeekdffbcbamaaGreatDoor
