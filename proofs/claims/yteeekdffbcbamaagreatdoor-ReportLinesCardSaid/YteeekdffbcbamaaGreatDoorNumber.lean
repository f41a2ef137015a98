/-
  WALKS: the next number of a line (package report).
-/
import Derived.Test.YteeekdffbcbamaaGreatDoorField
import Derived.Test.YteeekdffbcbamaaGreatDoorG1
namespace Go.Proofs.YteeekdffbcbamaaGreatDoor
open Go.RowKit

theorem head_zero (D : ByteArray) (h0 : 0 < D.size) : D.data.toList.head? = some D[0] := by
  rw [List.head?_eq_getElem?, Array.getElem?_toList]
  exact Array.getElem?_eq_getElem h0
theorem size_pos {D : ByteArray} (h : D.data.toList ≠ []) : 0 < D.size := by
  rw [← Plain.len_size]
  exact List.length_pos_iff.2 h
theorem bad_cases {F D : ByteArray} (hD : D.data.toList = Plain.body F.data.toList) (hb : Plain.badB F.data.toList = true) :
    D.toList = [] ∨ (¬ D.toList = [] ∧ 19 < D.size) ∨ (∃ h0 : 0 < D.size, ¬ D.toList = [] ∧ D.size ≤ 19 ∧ D[0].toNat = 48 ∧ ¬ F.toList = [48]) ∨ (∃ h0 : 0 < D.size, ¬ D.toList = [] ∧ D.size ≤ 19 ∧ ¬ D[0].toNat = 48 ∧ D.data.toList.all Plain.digB = false) := by
  rw [ByteArray.toList_eq, ByteArray.toList_eq]
  unfold Plain.badB at hb
  rw [← hD] at hb
  by_cases h1 : D.data.toList = []
  · exact Or.inl h1
  · have h0 := size_pos h1
    have hh := head_zero D h0
    refine Or.inr ?_
    by_cases h2 : 19 < D.size
    · exact Or.inl ⟨h1, h2⟩
    · refine Or.inr ?_
      have e1 : D.data.toList.isEmpty = false := by simpa using h1
      have e2 : decide (19 < D.data.toList.length) = false := by rw [Plain.len_size]; simpa using h2
      rw [e1, e2, Bool.false_or, Bool.false_or, hh] at hb
      by_cases h3 : D[0].toNat = 48
      · have h3' : D[0] = 48 := UInt8.toNat_inj.1 h3
        by_cases h4 : F.data.toList = [48]
        · exfalso
          rw [h4] at hb hD
          rw [hD] at hb
          revert hb
          simp [Plain.body, Plain.negB, Plain.digB]
        · exact Or.inl ⟨h0, h1, by omega, h3, h4⟩
      · refine Or.inr ⟨h0, h1, by omega, h3, ?_⟩
        have h3' : (some D[0] == some (48 : UInt8)) = false := by
          simp only [beq_eq_false_iff_ne, ne_eq, Option.some.injEq]
          exact fun e => h3 (by rw [e]; rfl)
        rw [h3', Bool.false_and, Bool.false_or] at hb
        simpa using hb
theorem trim_some {D : ByteArray} (h : D.data.toList.all Plain.digB = false) : ¬ (⟨(Lib.trimS D.data.toList Plain.digits).toArray⟩ : ByteArray).toList = [] := by
  rw [ByteArray.toList_eq]
  intro e
  have := (Plain.trim_empty D.data.toList).1 e
  rw [h] at this
  cases this
section
variable (b T : Nat) (s : ByteArray) (a e : Nat) (er ea : Int) (X : Array Value) (w : World) (lo hi wr : Int)
theorem number_er (more : Bool) (h : Rd w b T s a e more er ea X) (he : er ≠ 0) :
    Calls Tryz.prog 33 #[.pointer (some ⟨b, 0, none⟩), .int .i64 lo, .int .i64 hi, .int .i64 wr] w fun en w' => en = .returned (.int .i64 0) ∧ Rd w' b T s a e more er ea X ∧ w.grownBy w' (some b) := by
  have HF := Lib.hid (field_er b T s a e er ea X w more h he)
  have hq : (er != 0) = true := by simpa using he
  clear h he
  go_enter Tryz.func33, Tryz.ntmps33
  go_wp2_with fail
  refine HF.out.mono ?_
  rintro en w1 ⟨rfl, hr1, hg1⟩
  obtain ⟨d0, d1, d2, d3, d4, d5⟩ := hr1.cells
  have HR1 := Lib.hid hr1; clear hr1
  have HG1 := Lib.hid hg1; clear hg1
  go_wp2_with fail
  go_ret
  exact ⟨rfl, HR1.out, HG1.out⟩
theorem number_end (h : Rd w b T s a e false 0 ea X) :
    Calls Tryz.prog 33 #[.pointer (some ⟨b, 0, none⟩), .int .i64 lo, .int .i64 hi, .int .i64 wr] w fun en w' => en = .returned (.int .i64 0) ∧ Rd w' b T s a e false 11 e X ∧ w.grownBy w' (some b) := by
  have HF := Lib.hid (field_end b T s a e ea X w h)
  clear h
  go_enter Tryz.func33, Tryz.ntmps33
  go_wp2_with fail
  refine HF.out.mono ?_
  rintro en w1 ⟨rfl, hr1, hg1⟩
  obtain ⟨d0, d1, d2, d3, d4, d5⟩ := hr1.cells
  have HR1 := Lib.hid hr1; clear hr1
  have HG1 := Lib.hid hg1; clear hg1
  go_wp2_with fail
  go_ret
  exact ⟨rfl, HR1.out, HG1.out⟩
theorem number_bad (h : Rd w b T s a e true 0 ea X) (hs : s.size ≤ 1000000) (hae : a ≤ e) (hes : e ≤ s.size) (n : Nat) (hn : Plain.fldN s a e = n) (fd : Bool) (hf : decide (a + n < e) = fd) (F : ByteArray) (hF : s.extract a (a + n) = F) (hb : Plain.badB F.data.toList = true) :
    Calls Tryz.prog 33 #[.pointer (some ⟨b, 0, none⟩), .int .i64 lo, .int .i64 hi, .int .i64 wr] w fun en w' => en = .returned (.int .i64 0) ∧ Rd w' b T s (a + n + 1) e fd 11 a X ∧ w.grownBy w' (some b) := by
  have HF := Lib.hid (field_ok b T s a e ea X w h hs hae hes n hn fd hf)
  have hFs : F.size ≤ 1000000 := by rw [← hF, ByteArray.size_extract]; omega
  rw [hF] at HF
  obtain ⟨D, hD⟩ : ∃ D, (⟨(Plain.body F.data.toList).toArray⟩ : ByteArray) = D := ⟨_, rfl⟩
  have HT := Lib.hid (fun W => trimPrefix_any F W D hD)
  have hDl : D.data.toList = Plain.body F.data.toList := by rw [← hD]
  have hDs : D.size ≤ F.size := by
    rw [← Plain.len_size, ← Plain.len_size, hDl]
    unfold Plain.body
    split <;> simp
  have HFl := Lib.hid (fun W (h : Rd W b T s (a + n + 1) e fd 0 ea X) => fail_any b T s (a + n + 1) e fd 0 ea 11 a X W h)
  rw [Plain.fe_zero, Plain.fa_zero] at HFl
  have hbad := bad_cases hDl hb
  clear h hF hD hn hf hb hDl
  rcases hbad with h1 | ⟨h1, h2⟩ | ⟨h0, h1, h2, h3, h4⟩ | ⟨h0, h1, h2, h3, h4⟩
  · go_enter Tryz.func33, Tryz.ntmps33
    go_wp2_with fail
    refine HF.out.mono ?_
    rintro en w1 ⟨rfl, hr1, hg1⟩
    obtain ⟨d0, d1, d2, d3, d4, d5⟩ := hr1.cells
    have HR1 := Lib.hid hr1; clear hr1
    have HG1 := Lib.hid hg1; clear hg1
    go_wp2_with fail
    refine (HT.out _).mono ?_
    rintro en w2 ⟨rfl, rfl⟩
    go_wp2_with fail
    refine (HFl.out _ HR1.out).mono ?_
    rintro en w2 ⟨rfl, hr2, hg2⟩
    go_wp2_with fail
    go_ret
    exact ⟨rfl, hr2, grown_trans HG1.out hg2⟩
  · have h2' : (19 : Int) < D.size := by omega
    go_enter Tryz.func33, Tryz.ntmps33
    go_wp2_with fail
    refine HF.out.mono ?_
    rintro en w1 ⟨rfl, hr1, hg1⟩
    obtain ⟨d0, d1, d2, d3, d4, d5⟩ := hr1.cells
    have HR1 := Lib.hid hr1; clear hr1
    have HG1 := Lib.hid hg1; clear hg1
    go_wp2_with fail
    refine (HT.out _).mono ?_
    rintro en w2 ⟨rfl, rfl⟩
    go_wp2_with fail
    refine (HFl.out _ HR1.out).mono ?_
    rintro en w2 ⟨rfl, hr2, hg2⟩
    go_wp2_with fail
    go_ret
    exact ⟨rfl, hr2, grown_trans HG1.out hg2⟩
  · have h2' : (D.size : Int) ≤ 19 := by omega
    have h3' : (D[0].toNat : Int) = 48 := by omega
    clear h3
    go_enter Tryz.func33, Tryz.ntmps33
    go_wp2_with fail
    refine HF.out.mono ?_
    rintro en w1 ⟨rfl, hr1, hg1⟩
    obtain ⟨d0, d1, d2, d3, d4, d5⟩ := hr1.cells
    have HR1 := Lib.hid hr1; clear hr1
    have HG1 := Lib.hid hg1; clear hg1
    go_wp2_with fail
    refine (HT.out _).mono ?_
    rintro en w2 ⟨rfl, rfl⟩
    go_wp2_with fail
    refine (HFl.out _ HR1.out).mono ?_
    rintro en w2 ⟨rfl, hr2, hg2⟩
    go_wp2_with fail
    go_ret
    exact ⟨rfl, hr2, grown_trans HG1.out hg2⟩
  · have h2' : (D.size : Int) ≤ 19 := by omega
    have h3' : ¬ (D[0].toNat : Int) = 48 := by omega
    obtain ⟨R, hR⟩ : ∃ R, (⟨(Lib.trimS D.data.toList Plain.digits).toArray⟩ : ByteArray) = R := ⟨_, rfl⟩
    have HTr := Lib.hid (fun W => trim_any D W (by omega) R hR)
    have hR0 : ¬ R.toList = [] := by
      rw [← hR]
      exact trim_some h4
    have hR1 : (!R.toList.isEmpty) = true := by simpa using hR0
    clear h3 h4 hR
    go_enter Tryz.func33, Tryz.ntmps33
    go_wp2_with fail
    refine HF.out.mono ?_
    rintro en w1 ⟨rfl, hr1, hg1⟩
    obtain ⟨d0, d1, d2, d3, d4, d5⟩ := hr1.cells
    have HR1 := Lib.hid hr1; clear hr1
    have HG1 := Lib.hid hg1; clear hg1
    go_wp2_with fail
    refine (HT.out _).mono ?_
    rintro en w2 ⟨rfl, rfl⟩
    go_wp2_with fail
    refine (HTr.out _).mono ?_
    rintro en w2 ⟨rfl, hb2⟩
    have HG2 := Lib.hid (grown_below hb2); clear hb2
    have HR2 := Lib.hid (HR1.out.grown HG2.out (by simp))
    go_wp2_with fail
    refine (HFl.out _ HR2.out).mono ?_
    rintro en w3 ⟨rfl, hr3, hg3⟩
    go_wp2_with fail
    go_ret
    exact ⟨rfl, hr3, grown_trans (grown_trans HG1.out (grown_none HG2.out)) hg3⟩
end
end Go.Proofs.YteeekdffbcbamaaGreatDoor
