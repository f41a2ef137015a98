/-
  WALKS: the reference's number where the field is no number (a sign alone, too long behind a sign, led by a zero behind a sign, a byte that is no digit).
-/
import Derived.Test.YteeekdffbcbamaaGreatDoorG8
namespace Go.Proofs.YteeekdffbcbamaaGreatDoor
open Go.RowKit
theorem nondig {D : ByteArray} (h : D.data.toList.all Plain.digB = false) (hall : (D.data.toList.take D.size).all Plain.digB = true) : False := by
  rw [Plain.take_all, h] at hall
  cases hall
theorem dig_all_step (s : ByteArray) (k : Nat) (h : k < s.size) : (s.data.toList.take (k + 1)).all Plain.digB = ((s.data.toList.take k).all Plain.digB && Plain.digB s[k]) := by
  rw [Plain.take_snoc s k h, List.all_append]
  simp
theorem digB_cases (c : UInt8) : ((48 : Int) ≤ c.toNat ∧ (c.toNat : Int) ≤ 57 ∧ Plain.digB c = true) ∨ ((c.toNat : Int) < 48 ∧ Plain.digB c = false) ∨ ((48 : Int) ≤ c.toNat ∧ (57 : Int) < c.toNat ∧ Plain.digB c = false) := by
  unfold Plain.digB
  by_cases h1 : 48 ≤ c.toNat
  · by_cases h2 : c.toNat ≤ 57
    · exact Or.inl ⟨by omega, by omega, by simp [h1, h2]⟩
    · exact Or.inr (Or.inr ⟨by omega, by omega, by simp [h2]⟩)
  · exact Or.inr (Or.inl ⟨by omega, by simp [h1]⟩)
set_option maxHeartbeats 1000000 in
theorem rnumber_sempty (b T : Nat) (s : ByteArray) (a e : Nat) (ea : Int) (X : Array Value) (w : World) (lo hi wr : Int) (h : Rd w b T s a e true 0 ea X) (hs : s.size ≤ 1000000) (hae : a ≤ e) (hes : e ≤ s.size) (n : Nat) (hn : Plain.fldN s a e = n) (fd : Bool) (hf : decide (a + n < e) = fd) (F : ByteArray) (hF : s.extract a (a + n) = F) (h0 : 0 < F.size) (h45 : (F[0].toNat : Int) = 45) (D : ByteArray) (hD : F.extract 1 F.size = D) (hd0 : D.size = 0) :
    Calls Tryz.prog 37 #[.pointer (some ⟨b, 0, none⟩), .int .i64 lo, .int .i64 hi, .int .i64 wr] w fun en w' => en = .returned (.int .i64 0) ∧ Rd w' b T s (a + n + 1) e fd 11 a X ∧ w.grownBy w' (some b) := by
  have HF := Lib.hid (rfield_ok b T s a e ea X w h hs hae hes n hn fd hf)
  rw [hF] at HF
  have HFl := Lib.hid (fun W c (h : Rd W b T s (a + n + 1) e fd 0 ea X) => rfail_any b T s (a + n + 1) e fd 0 ea c a X W h)
  simp only [Plain.fe_zero, Plain.fa_zero] at HFl
  have h1 : ¬ F.toList = [] := by rw [ByteArray.toList_eq]; intro e; have := Plain.len_size F; rw [e] at this; simp at this; omega
  have hc0 : F[0].toNat < 256 := F[0].toNat_lt
  have h0' : (0 : Int) < F.size := by omega
  have hDs : D.size + 1 = F.size := by rw [← hD, ByteArray.size_extract]; omega
  have h1F : (1 : Int) ≤ F.size := by omega
  have hd1 : D.toList = [] := by rw [ByteArray.toList_eq]; apply List.eq_nil_of_length_eq_zero; rw [Plain.len_size]; exact hd0
  have hF1 : F.size = 1 := by omega
  obtain rfl : D = ⟨#[]⟩ := by apply ByteArray.ext; exact Array.eq_empty_of_size_eq_zero hd0
  clear h hn hf hF hd0 hd1 hDs
  go_enter Tryz.func37, Tryz.ntmps37
  go_wp2_with fail
  refine HF.out.mono ?_
  rintro en w1 ⟨rfl, hr1, hg1⟩
  obtain ⟨d0, d1, d2, d3, d4, d5⟩ := hr1.cells
  have HR1 := Lib.hid hr1; clear hr1
  have HG1 := Lib.hid hg1; clear hg1
  go_wp2_with fail
  go_loop [12, 13, 14] (fun o m i => i = .int .i64 0 ∧ m = .int .i64 0 ∧ o = .bool false) (fun _ _ _ => 0)
  case atStart => exact ⟨rfl, rfl, rfl⟩
  case round =>
    obtain ⟨rfl, rfl, rfl⟩ := hrel
    go_wp2_with fail
    refine (HFl.out _ 11 HR1.out).mono ?_
    rintro en w2 ⟨rfl, hr2, hg2⟩
    go_wp2_with fail
    go_ret
    exact ⟨rfl, hr2, grown_trans HG1.out hg2⟩
set_option maxHeartbeats 1000000 in
theorem rnumber_slong (b T : Nat) (s : ByteArray) (a e : Nat) (ea : Int) (X : Array Value) (w : World) (lo hi wr : Int) (h : Rd w b T s a e true 0 ea X) (hs : s.size ≤ 1000000) (hae : a ≤ e) (hes : e ≤ s.size) (n : Nat) (hn : Plain.fldN s a e = n) (fd : Bool) (hf : decide (a + n < e) = fd) (F : ByteArray) (hF : s.extract a (a + n) = F) (h0 : 0 < F.size) (h45 : (F[0].toNat : Int) = 45) (D : ByteArray) (hD : F.extract 1 F.size = D) (h19 : (19 : Int) < D.size) :
    Calls Tryz.prog 37 #[.pointer (some ⟨b, 0, none⟩), .int .i64 lo, .int .i64 hi, .int .i64 wr] w fun en w' => en = .returned (.int .i64 0) ∧ Rd w' b T s (a + n + 1) e fd 11 a X ∧ w.grownBy w' (some b) := by
  have HF := Lib.hid (rfield_ok b T s a e ea X w h hs hae hes n hn fd hf)
  rw [hF] at HF
  have HFl := Lib.hid (fun W c (h : Rd W b T s (a + n + 1) e fd 0 ea X) => rfail_any b T s (a + n + 1) e fd 0 ea c a X W h)
  simp only [Plain.fe_zero, Plain.fa_zero] at HFl
  have h1 : ¬ F.toList = [] := by rw [ByteArray.toList_eq]; intro e; have := Plain.len_size F; rw [e] at this; simp at this; omega
  have hc0 : F[0].toNat < 256 := F[0].toNat_lt
  have h0' : (0 : Int) < F.size := by omega
  have hDs : D.size + 1 = F.size := by rw [← hD, ByteArray.size_extract]; omega
  have h1F : (1 : Int) ≤ F.size := by omega
  have hd0 : 0 < D.size := by omega
  have hd0' : (0 : Int) < D.size := by omega
  have hd1 : ¬ D.toList = [] := by rw [ByteArray.toList_eq]; intro e; have := Plain.len_size D; rw [e] at this; simp at this; omega
  have hd2 : D[0].toNat < 256 := D[0].toNat_lt
  clear h hn hf hF
  go_enter Tryz.func37, Tryz.ntmps37
  go_wp2_with fail
  refine HF.out.mono ?_
  rintro en w1 ⟨rfl, hr1, hg1⟩
  obtain ⟨d0, d1, d2, d3, d4, d5⟩ := hr1.cells
  have HR1 := Lib.hid hr1; clear hr1
  have HG1 := Lib.hid hg1; clear hg1
  go_wp2_with fail
  go_loop [12, 13, 14] (fun o m i => i = .int .i64 0 ∧ m = .int .i64 0 ∧ o = .bool false) (fun _ _ _ => 0)
  case atStart => exact ⟨rfl, rfl, rfl⟩
  case round =>
    obtain ⟨rfl, rfl, rfl⟩ := hrel
    go_wp2_with fail
    refine (HFl.out _ 11 HR1.out).mono ?_
    rintro en w2 ⟨rfl, hr2, hg2⟩
    go_wp2_with fail
    go_ret
    exact ⟨rfl, hr2, grown_trans HG1.out hg2⟩
set_option maxHeartbeats 1000000 in
theorem rnumber_slead (b T : Nat) (s : ByteArray) (a e : Nat) (ea : Int) (X : Array Value) (w : World) (lo hi wr : Int) (h : Rd w b T s a e true 0 ea X) (hs : s.size ≤ 1000000) (hae : a ≤ e) (hes : e ≤ s.size) (n : Nat) (hn : Plain.fldN s a e = n) (fd : Bool) (hf : decide (a + n < e) = fd) (F : ByteArray) (hF : s.extract a (a + n) = F) (h0 : 0 < F.size) (h45 : (F[0].toNat : Int) = 45) (D : ByteArray) (hD : F.extract 1 F.size = D) (hd0 : 0 < D.size) (h19 : (D.size : Int) ≤ 19) (h48 : (D[0].toNat : Int) = 48) :
    Calls Tryz.prog 37 #[.pointer (some ⟨b, 0, none⟩), .int .i64 lo, .int .i64 hi, .int .i64 wr] w fun en w' => en = .returned (.int .i64 0) ∧ Rd w' b T s (a + n + 1) e fd 11 a X ∧ w.grownBy w' (some b) := by
  have HF := Lib.hid (rfield_ok b T s a e ea X w h hs hae hes n hn fd hf)
  rw [hF] at HF
  have HFl := Lib.hid (fun W c (h : Rd W b T s (a + n + 1) e fd 0 ea X) => rfail_any b T s (a + n + 1) e fd 0 ea c a X W h)
  simp only [Plain.fe_zero, Plain.fa_zero] at HFl
  have h1 : ¬ F.toList = [] := by rw [ByteArray.toList_eq]; intro e; have := Plain.len_size F; rw [e] at this; simp at this; omega
  have hc0 : F[0].toNat < 256 := F[0].toNat_lt
  have h0' : (0 : Int) < F.size := by omega
  have hDs : D.size + 1 = F.size := by rw [← hD, ByteArray.size_extract]; omega
  have h1F : (1 : Int) ≤ F.size := by omega
  have hd0' : (0 : Int) < D.size := by omega
  have hd1 : ¬ D.toList = [] := by rw [ByteArray.toList_eq]; intro e; have := Plain.len_size D; rw [e] at this; simp at this; omega
  have hd2 : D[0].toNat < 256 := D[0].toNat_lt
  have hne2 : (F.toList == [48]) = false := by
    have hne : ¬ F.toList = [48] := by
      intro e
      have hl := Plain.len_size F
      rw [← ByteArray.toList_eq, e] at hl
      simp at hl
      omega
    simpa using hne
  clear h hn hf hF
  go_enter Tryz.func37, Tryz.ntmps37
  go_wp2_with fail
  refine HF.out.mono ?_
  rintro en w1 ⟨rfl, hr1, hg1⟩
  obtain ⟨d0, d1, d2, d3, d4, d5⟩ := hr1.cells
  have HR1 := Lib.hid hr1; clear hr1
  have HG1 := Lib.hid hg1; clear hg1
  go_wp2_with fail
  go_loop [12, 13, 14] (fun o m i => i = .int .i64 0 ∧ m = .int .i64 0 ∧ o = .bool false) (fun _ _ _ => 0)
  case atStart => exact ⟨rfl, rfl, rfl⟩
  case round =>
    obtain ⟨rfl, rfl, rfl⟩ := hrel
    go_wp2_with fail
    refine (HFl.out _ 11 HR1.out).mono ?_
    rintro en w2 ⟨rfl, hr2, hg2⟩
    go_wp2_with fail
    go_ret
    exact ⟨rfl, hr2, grown_trans HG1.out hg2⟩
set_option maxHeartbeats 1000000 in
theorem rnumber_dig (b T : Nat) (s : ByteArray) (a e : Nat) (ea : Int) (X : Array Value) (w : World) (lo hi wr : Int) (h : Rd w b T s a e true 0 ea X) (hs : s.size ≤ 1000000) (hae : a ≤ e) (hes : e ≤ s.size) (n : Nat) (hn : Plain.fldN s a e = n) (fd : Bool) (hf : decide (a + n < e) = fd) (F : ByteArray) (hF : s.extract a (a + n) = F) (h0 : 0 < F.size) (h45 : ¬ (F[0].toNat : Int) = 45) (h19 : (F.size : Int) ≤ 19) (h48 : ¬ (F[0].toNat : Int) = 48) (hb : F.data.toList.all Plain.digB = false) :
    Calls Tryz.prog 37 #[.pointer (some ⟨b, 0, none⟩), .int .i64 lo, .int .i64 hi, .int .i64 wr] w fun en w' => en = .returned (.int .i64 0) ∧ Rd w' b T s (a + n + 1) e fd 11 a X ∧ w.grownBy w' (some b) := by
  have HF := Lib.hid (rfield_ok b T s a e ea X w h hs hae hes n hn fd hf)
  rw [hF] at HF
  have HFl := Lib.hid (fun W c (h : Rd W b T s (a + n + 1) e fd 0 ea X) => rfail_any b T s (a + n + 1) e fd 0 ea c a X W h)
  simp only [Plain.fe_zero, Plain.fa_zero] at HFl
  have h1 : ¬ F.toList = [] := by rw [ByteArray.toList_eq]; intro e; have := Plain.len_size F; rw [e] at this; simp at this; omega
  have hc0 : F[0].toNat < 256 := F[0].toNat_lt
  have h0' : (0 : Int) < F.size := by omega
  have HB := Lib.hid hb; clear hb
  clear h hn hf hF
  go_enter Tryz.func37, Tryz.ntmps37
  go_wp2_with fail
  refine HF.out.mono ?_
  rintro en w1 ⟨rfl, hr1, hg1⟩
  obtain ⟨d0, d1, d2, d3, d4, d5⟩ := hr1.cells
  have HR1 := Lib.hid hr1; clear hr1
  have HG1 := Lib.hid hg1; clear hg1
  go_wp2_with fail
  go_loop [12, 13, 14] (fun o m i => ∃ (k : Nat) (z : Int), i = .int .i64 k ∧ m = .int .i64 z ∧ ((o = .bool true ∧ k ≤ F.size ∧ 0 ≤ z ∧ z < 1000000000000000010 ∧ Hid ((F.data.toList.take k).all Plain.digB = true)) ∨ (o = .bool false ∧ k ≤ F.size))) (fun o _ i => F.size - (intOf i).toNat)
  case atStart => exact ⟨0, 0, rfl, rfl, Or.inl ⟨rfl, Nat.zero_le _, by omega, by omega, Lib.hid rfl⟩⟩
  case round =>
    obtain ⟨k, z, rfl, rfl, hcs⟩ := hrel
    rcases hcs with ⟨rfl, hk, hz0, hz1, hA⟩ | ⟨rfl, hk⟩
    · by_cases hlt : k < F.size
      · have hst := dig_all_step F k hlt
        rw [hA.out, Bool.true_and] at hst
        have hc2 : F[k].toNat < 256 := F[k].toNat_lt
        rcases digB_cases F[k] with ⟨g1, g2, g3⟩ | ⟨g1, g3⟩ | ⟨g0, g1, g3⟩
        · have HS := Lib.hid (hst.trans g3); clear hst g3
          by_cases hb : z ≤ 100000000000000000
          · go_wp2_with fail
            go_round
            case rel => exact ⟨k + 1, _, by go_num, rfl, Or.inl ⟨rfl, by omega, by omega, by omega, HS⟩⟩
            case measure => simp [intOf]; omega
          · have hb' : 100000000000000000 < z := by omega
            go_wp2_with fail
            go_round
            case rel => exact ⟨k + 1, _, by go_num, rfl, Or.inl ⟨rfl, by omega, by omega, by omega, HS⟩⟩
            case measure => simp [intOf]; omega
        · clear hst g3
          by_cases hb : z ≤ 100000000000000000
          · go_wp2_with fail
            go_round
            case rel => exact ⟨k + 1, _, by go_num, rfl, Or.inr ⟨rfl, by omega⟩⟩
            case measure => simp [intOf]; omega
          · have hb' : 100000000000000000 < z := by omega
            go_wp2_with fail
            go_round
            case rel => exact ⟨k + 1, _, by go_num, rfl, Or.inr ⟨rfl, by omega⟩⟩
            case measure => simp [intOf]; omega
        · clear hst g3
          by_cases hb : z ≤ 100000000000000000
          · go_wp2_with fail
            go_round
            case rel => exact ⟨k + 1, _, by go_num, rfl, Or.inr ⟨rfl, by omega⟩⟩
            case measure => simp [intOf]; omega
          · have hb' : 100000000000000000 < z := by omega
            go_wp2_with fail
            go_round
            case rel => exact ⟨k + 1, _, by go_num, rfl, Or.inr ⟨rfl, by omega⟩⟩
            case measure => simp [intOf]; omega
      · obtain rfl : k = F.size := by omega
        exact absurd hA.out (fun hq => nondig HB.out hq)
    · by_cases hlt : k < F.size
      · go_wp2_with fail
        refine (HFl.out _ 11 HR1.out).mono ?_
        rintro en w2 ⟨rfl, hr2, hg2⟩
        go_wp2_with fail
        go_ret
        exact ⟨rfl, hr2, grown_trans HG1.out hg2⟩
      · have hle2 : F.size ≤ k := by omega
        go_wp2_with fail
        refine (HFl.out _ 11 HR1.out).mono ?_
        rintro en w2 ⟨rfl, hr2, hg2⟩
        go_wp2_with fail
        go_ret
        exact ⟨rfl, hr2, grown_trans HG1.out hg2⟩
set_option maxHeartbeats 1000000 in
theorem rnumber_sdig (b T : Nat) (s : ByteArray) (a e : Nat) (ea : Int) (X : Array Value) (w : World) (lo hi wr : Int) (h : Rd w b T s a e true 0 ea X) (hs : s.size ≤ 1000000) (hae : a ≤ e) (hes : e ≤ s.size) (n : Nat) (hn : Plain.fldN s a e = n) (fd : Bool) (hf : decide (a + n < e) = fd) (F : ByteArray) (hF : s.extract a (a + n) = F) (h0 : 0 < F.size) (h45 : (F[0].toNat : Int) = 45) (D : ByteArray) (hD : F.extract 1 F.size = D) (hd0 : 0 < D.size) (h19 : (D.size : Int) ≤ 19) (h48 : ¬ (D[0].toNat : Int) = 48) (hb : D.data.toList.all Plain.digB = false) :
    Calls Tryz.prog 37 #[.pointer (some ⟨b, 0, none⟩), .int .i64 lo, .int .i64 hi, .int .i64 wr] w fun en w' => en = .returned (.int .i64 0) ∧ Rd w' b T s (a + n + 1) e fd 11 a X ∧ w.grownBy w' (some b) := by
  have HF := Lib.hid (rfield_ok b T s a e ea X w h hs hae hes n hn fd hf)
  rw [hF] at HF
  have HFl := Lib.hid (fun W c (h : Rd W b T s (a + n + 1) e fd 0 ea X) => rfail_any b T s (a + n + 1) e fd 0 ea c a X W h)
  simp only [Plain.fe_zero, Plain.fa_zero] at HFl
  have h1 : ¬ F.toList = [] := by rw [ByteArray.toList_eq]; intro e; have := Plain.len_size F; rw [e] at this; simp at this; omega
  have hc0 : F[0].toNat < 256 := F[0].toNat_lt
  have h0' : (0 : Int) < F.size := by omega
  have hDs : D.size + 1 = F.size := by rw [← hD, ByteArray.size_extract]; omega
  have h1F : (1 : Int) ≤ F.size := by omega
  have hd0' : (0 : Int) < D.size := by omega
  have hd1 : ¬ D.toList = [] := by rw [ByteArray.toList_eq]; intro e; have := Plain.len_size D; rw [e] at this; simp at this; omega
  have hd2 : D[0].toNat < 256 := D[0].toNat_lt
  have HB := Lib.hid hb; clear hb
  clear h hn hf hF
  go_enter Tryz.func37, Tryz.ntmps37
  go_wp2_with fail
  refine HF.out.mono ?_
  rintro en w1 ⟨rfl, hr1, hg1⟩
  obtain ⟨d0, d1, d2, d3, d4, d5⟩ := hr1.cells
  have HR1 := Lib.hid hr1; clear hr1
  have HG1 := Lib.hid hg1; clear hg1
  go_wp2_with fail
  go_loop [12, 13, 14] (fun o m i => ∃ (k : Nat) (z : Int), i = .int .i64 k ∧ m = .int .i64 z ∧ ((o = .bool true ∧ k ≤ D.size ∧ 0 ≤ z ∧ z < 1000000000000000010 ∧ Hid ((D.data.toList.take k).all Plain.digB = true)) ∨ (o = .bool false ∧ k ≤ D.size))) (fun o _ i => D.size - (intOf i).toNat)
  case atStart => exact ⟨0, 0, rfl, rfl, Or.inl ⟨rfl, Nat.zero_le _, by omega, by omega, Lib.hid rfl⟩⟩
  case round =>
    obtain ⟨k, z, rfl, rfl, hcs⟩ := hrel
    rcases hcs with ⟨rfl, hk, hz0, hz1, hA⟩ | ⟨rfl, hk⟩
    · by_cases hlt : k < D.size
      · have hst := dig_all_step D k hlt
        rw [hA.out, Bool.true_and] at hst
        have hc2 : D[k].toNat < 256 := D[k].toNat_lt
        rcases digB_cases D[k] with ⟨g1, g2, g3⟩ | ⟨g1, g3⟩ | ⟨g0, g1, g3⟩
        · have HS := Lib.hid (hst.trans g3); clear hst g3
          by_cases hb : z ≤ 100000000000000000
          · go_wp2_with fail
            go_round
            case rel => exact ⟨k + 1, _, by go_num, rfl, Or.inl ⟨rfl, by omega, by omega, by omega, HS⟩⟩
            case measure => simp [intOf]; omega
          · have hb' : 100000000000000000 < z := by omega
            go_wp2_with fail
            go_round
            case rel => exact ⟨k + 1, _, by go_num, rfl, Or.inl ⟨rfl, by omega, by omega, by omega, HS⟩⟩
            case measure => simp [intOf]; omega
        · clear hst g3
          by_cases hb : z ≤ 100000000000000000
          · go_wp2_with fail
            go_round
            case rel => exact ⟨k + 1, _, by go_num, rfl, Or.inr ⟨rfl, by omega⟩⟩
            case measure => simp [intOf]; omega
          · have hb' : 100000000000000000 < z := by omega
            go_wp2_with fail
            go_round
            case rel => exact ⟨k + 1, _, by go_num, rfl, Or.inr ⟨rfl, by omega⟩⟩
            case measure => simp [intOf]; omega
        · clear hst g3
          by_cases hb : z ≤ 100000000000000000
          · go_wp2_with fail
            go_round
            case rel => exact ⟨k + 1, _, by go_num, rfl, Or.inr ⟨rfl, by omega⟩⟩
            case measure => simp [intOf]; omega
          · have hb' : 100000000000000000 < z := by omega
            go_wp2_with fail
            go_round
            case rel => exact ⟨k + 1, _, by go_num, rfl, Or.inr ⟨rfl, by omega⟩⟩
            case measure => simp [intOf]; omega
      · obtain rfl : k = D.size := by omega
        exact absurd hA.out (fun hq => nondig HB.out hq)
    · by_cases hlt : k < D.size
      · go_wp2_with fail
        refine (HFl.out _ 11 HR1.out).mono ?_
        rintro en w2 ⟨rfl, hr2, hg2⟩
        go_wp2_with fail
        go_ret
        exact ⟨rfl, hr2, grown_trans HG1.out hg2⟩
      · have hle2 : D.size ≤ k := by omega
        go_wp2_with fail
        refine (HFl.out _ 11 HR1.out).mono ?_
        rintro en w2 ⟨rfl, hr2, hg2⟩
        go_wp2_with fail
        go_ret
        exact ⟨rfl, hr2, grown_trans HG1.out hg2⟩
end Go.Proofs.YteeekdffbcbamaaGreatDoor
