/-
  WALKS: the sentence of a line (package report), at another word.
-/
import Derived.Test.YteeekdffbcbamaaGreatDoorG4
namespace Go.Proofs.YteeekdffbcbamaaGreatDoor
open Go.RowKit
set_option maxHeartbeats 4000000 in
theorem parse_0 (s : ByteArray) (w : World) (E : Nat) (hE : Plain.endsP s = (E, 0, 0)) (hW1 : (Plain.wordF s E).data.toList ≠ [70, 73, 88]) (hW2 : (Plain.wordF s E).data.toList ≠ [83, 65, 84]) (hW3 : (Plain.wordF s E).data.toList ≠ [84, 88, 84]) :
    Calls Tryz.prog 14 #[.string s] w (ParsePost w (Plain.fieldsP s E 0)) := by
  obtain ⟨hs5, hE1, hEs, -⟩ := Plain.ends_ok hE
  have hs : s.size ≤ 1000000 := by omega
  have HE := Lib.hid (fun W => ends_any s W E 0 0 hE hs)
  clear hE
  have hes : E ≤ s.size := by omega
  have HF := Lib.hid (fun b W (h : Rs W b 66 s E Plain.st0 zeroX) => field_st b 66 s E Plain.st0 zeroX W h (Plain.okSt_st0 hE1) hs hes)
  rw [Plain.fldS_st0] at HF
  change Hid (∀ b W, Rs W b 66 s E Plain.st0 zeroX → Calls Tryz.prog 31 #[.pointer (some ⟨b, 0, none⟩)] W fun en w' => en = .returned (.tuple #[.string (Plain.wordF s E), .int .i64 1]) ∧ Rs w' b 66 s E (Plain.stW s E) zeroX ∧ W.grownBy w' (some b)) at HF
  obtain ⟨F, hF⟩ : ∃ F, Plain.wordF s E = F := ⟨_, rfl⟩
  rw [hF] at HF hW1 hW2 hW3
  have HWL := Lib.hid (And.intro (ByteArray.toList_eq F ▸ hW1) (And.intro (ByteArray.toList_eq F ▸ hW2) (ByteArray.toList_eq F ▸ hW3)))
  clear hW1 hW2 hW3 hF
  go_enter Tryz.func14, Tryz.ntmps14
  go_wp2_with fail
  refine (HE.out _).mono ?_
  rintro en w1 ⟨rfl, hb1⟩
  have hsz1 : w.heap.size + 2 ≤ w1.heap.size := by have := hb1.size; simp at this; omega
  have hB1 : Blk w1 w.heap.size 28 zeroX := Blk.below (Blk.alloc (heap_alloc_new w _) _) hb1 (by simp; omega)
  have hB2 : Blk w1 (w.heap.size + 1) 39 #[.int .i64 0, .int .i64 0] := Blk.below (heap_new_at _ _ _ (by simp)) hb1 (by simp)
  have hBW : Below w.heap.size w w1 := (((Below.refl w.heap.size w).alloc (Nat.le_refl _) _).alloc (by simp) _).trans (hb1.mono (by simp; omega))
  have HBW := Lib.hid hBW; clear hBW
  have HB1 := Lib.hid hB1; clear hB1
  have HB2 := Lib.hid hB2; clear hB2
  clear hb1
  go_wp2_with fail
  have HR2 := Lib.hid (rd_new (w1.alloc (.cells #[.int .i64 0, .int .i64 0] 39)) s E (w1.heap.size + 1) (by simp))
  refine (HF.out _ _ HR2.out).mono ?_
  rintro en w2 ⟨rfl, hr2, hg2⟩
  obtain ⟨b, hb⟩ : ∃ b, w1.heap.size + 1 = b := ⟨_, rfl⟩
  rw [hb] at hr2 hg2 ⊢
  have hB2' : Below w1.heap.size w1 w2 := (((Below.refl w1.heap.size w1).alloc (Nat.le_refl _) _).alloc (by simp) _).grown hg2 (by simp; omega) (fun g e => by cases e; omega)
  have hbn : w.heap.size + 2 < b := by omega
  have HBW2 := Lib.hid (HBW.out.trans (hB2'.mono (by omega)))
  have HB12 := Lib.hid (HB1.out.below hB2' (by omega))
  have HB22 := Lib.hid (HB2.out.below hB2' (by omega))
  have HR3 := Lib.hid hr2; clear hr2
  clear hB2' hg2 HR2 HB1 HB2 HBW HF HE hsz1
  go_wp2_with fail
  refine (kinds_any _).mono ?_
  rintro en w3 ⟨rfl, hb3⟩
  have hlt2 := Rd.lt HR3.out
  have HBW3 := Lib.hid (HBW2.out.trans (hb3.mono (by omega)))
  have HB13 := Lib.hid (HB12.out.below hb3 (by omega))
  have HB23 := Lib.hid (HB22.out.below hb3 (by omega))
  have HP3 : Hid (PreR w3 w3 b s E) := Lib.hid ⟨Rd.grown HR3.out (grown_below hb3) (by simp), Below.refl _ _⟩
  clear hb3 HR3 HBW2 HB12 HB22 hlt2 hb
  have i0 := fun W => kindsV0 W
  have i1 := fun W => kindsV1 W
  have i2 := fun W => kindsV2 W
  go_wp2_with fail
  go_loopw [31] (fun i wr => (i = .int .i64 0 ∧ PreR w3 wr b s E) ∨ (i = .int .i64 1 ∧ PreR w3 wr b s E) ∨ (i = .int .i64 2 ∧ PreR w3 wr b s E) ∨ (i = .int .i64 3 ∧ PreR w3 wr b s E)) (fun i _ => 3 - (intOf i).toNat)
  case atStart => exact Or.inl ⟨rfl, HP3.out⟩
  case round =>
    clear HP3
    rcases hrel with ⟨rfl, hr⟩ | ⟨rfl, hr⟩ | ⟨rfl, hr⟩ | ⟨rfl, hr⟩
    · have HR := Lib.hid hr; clear hr
      have q1 : (F.toList == [70, 73, 88]) = false := by have := HWL.out.1; simpa using this
      have q2 : (([70, 73, 88] : List UInt8) == F.toList) = false := by have := HWL.out.1; simpa using fun e => this e.symm
      go_wp2_with fail
      go_roundw
      case rel => exact Or.inr (Or.inl ⟨rfl, HR.out.alloc _⟩)
      case measure => simp [intOf]
    · have HR := Lib.hid hr; clear hr
      have q1 : (F.toList == [83, 65, 84]) = false := by have := HWL.out.2.1; simpa using this
      have q2 : (([83, 65, 84] : List UInt8) == F.toList) = false := by have := HWL.out.2.1; simpa using fun e => this e.symm
      go_wp2_with fail
      go_roundw
      case rel => exact Or.inr (Or.inr (Or.inl ⟨rfl, HR.out.alloc _⟩))
      case measure => simp [intOf]
    · have HR := Lib.hid hr; clear hr
      have q1 : (F.toList == [84, 88, 84]) = false := by have := HWL.out.2.2; simpa using this
      have q2 : (([84, 88, 84] : List UInt8) == F.toList) = false := by have := HWL.out.2.2; simpa using fun e => this e.symm
      go_wp2_with fail
      go_roundw
      case rel => exact Or.inr (Or.inr (Or.inr ⟨rfl, HR.out.alloc _⟩))
      case measure => simp [intOf]
    · have c6 : wr.cell? ⟨b, 6, none⟩ = some (.int .i64 0) := Rd.x hr.1 0 _ rfl
      have HR4 := Lib.hid hr; clear hr
      obtain ⟨w0, hw0⟩ : ∃ w0, wr = w0 := ⟨_, rfl⟩
      rw [hw0] at HR4 c6 ⊢
      clear hw0 i0 i1 i2 HWL
      go_wp2_with fail
      refine (fail_st b 66 s E (Plain.stW s E) zeroX _ 11 1 HR4.out.1).mono ?_
      rintro en w4 ⟨rfl, hr4, hg4⟩
      have HB4 := Lib.hid (HR4.out.2.grown hg4 (Nat.le_of_lt (Rd.lt HR4.out.1)) (fun g e => by cases e; exact Nat.le_refl _))
      rw [← Plain.bodySt_0] at hr4
      obtain ⟨X, hXX⟩ : ∃ X, zeroX = X := ⟨_, rfl⟩
      have HX := Lib.hid (show X.size = 14 by rw [← hXX]; rfl)
      rw [hXX] at hr4
      clear hXX HR4 hg4 c6
      have HO4 : Hid (w4.ownsRow (b + 1) 3 1 (.slice none 0 0) ([] : List Int).length (([] : List Int).map (Value.int .i64))) := Lib.hid (World.ownsRow_nil w4 (b + 1) 3 1)
      obtain ⟨st, hst⟩ : ∃ st, Plain.bodySt s E 0 = st := ⟨_, rfl⟩
      have HR4 := Lib.hid hr4; clear hr4
      have HQ : Hid (st.er = 0 → X = snCells (Plain.bodySn s E 0) (.slice none 0 0) ∧ ([] : List Int) = (Plain.bodySn s E 0).prns) := Lib.hid (fun h0 => absurd h0 (by rw [← hst, Plain.bodySt_0]; exact fun h => Plain.fail_er (by decide) h))
      rw [hst] at HR4
      have HST := Lib.hid hst; clear hst
      obtain ⟨d0, d1, d2, d3, d4, d5⟩ := Rd.cells HR4.out
      clear d0 d2 d4 d5
      by_cases hm : st.more = true
      · rw [hm] at d3
        have HEN := Lib.hid (show Plain.endSt st = Plain.failSt st 11 st.pos by unfold Plain.endSt; rw [if_pos hm])
        clear hm
        go_wp2_with fail
        refine (fail_st b 66 s E st X w4 11 st.pos HR4.out).mono ?_
        rintro en w5 ⟨rfl, hr5, hg5⟩
        rw [← HEN.out] at hr5
        have HR5 := Lib.hid hr5; clear hr5
        have HO5 := Lib.hid (own_grown HO4.out (by omega) hg5)
        have HB5 := Lib.hid (HB4.out.grown hg5 (Nat.le_of_lt (Rd.lt HR4.out)) (fun g e => by cases e; exact Nat.le_refl _))
        have HQ5 := Lib.hid (fun (h : (Plain.endSt st).er = 0) => HQ.out (absurd h (by rw [HEN.out]; exact fun h => Plain.fail_er (by decide) h)))
        clear hg5 HR4 HO4 HB4 HQ HEN d1 d3
        have HP1 := Lib.hid (HB13.out.below HB5.out (by omega))
        have HP2 := Lib.hid (HB23.out.below HB5.out (by omega))
        have HBW5 := Lib.hid (HBW3.out.trans (HB5.out.mono (by omega)))
        have hlt5 := Rd.lt HR5.out
        have hl1 : w.heap.size < w5.heap.size := by omega
        have hl2 : w.heap.size + 1 < w5.heap.size := by omega
        obtain ⟨x0, x1, x2, x3, x4, x5, x6, x7, x8, x9, x10, x11, x12, x13⟩ := HP1.out.zeros
        have y0 := HP2.out.cell 0
        have y1 := HP2.out.cell 1
        have f1 := HP1.out.frozen
        have f2 := HP2.out.frozen
        have f3 := Rd.frozen HR5.out
        obtain ⟨e0, e1, e2, e3, e4, e5⟩ := Rd.cells HR5.out
        clear e0 e1 e2 e3
        obtain ⟨er, her⟩ : ∃ er, (Plain.endSt st).er = er := ⟨_, rfl⟩
        obtain ⟨ea, hea⟩ : ∃ ea, (Plain.endSt st).ea = ea := ⟨_, rfl⟩
        rw [her] at e4
        rw [hea] at e5
        by_cases h0 : er = 0
        · exact absurd (Plain.endSt_er (her.trans h0)) (by rw [← HST.out, Plain.bodySt_0]; exact fun h => Plain.fail_er (by decide) h)
        · have hq : (er != 0) = true := by simpa using h0
          have HF := Lib.hid (Plain.fieldsP_er (s := s) (e := E) (k := 0) (by rw [HST.out, her]; exact h0))
          rw [HST.out, her, hea] at HF
          clear HQ5 HO5 her hea h0
          go_wp2_with fail
          go_region
          all_goals
            go_wp2_with fail
            obtain ⟨W, hW, hA, hC, hBB, -, -⟩ := set_all HP1.out rfl HP2.out (by omega) HBW5.out (Nat.le_refl _) (by omega) (.int .i64 0) (.int .i64 0) (.bool false) (.int .i64 0) (.int .i64 0) (.int .i64 0) (.int .i64 0) (.int .i64 0) (.int .i64 0) (.slice none 0 0) (.int .i64 0) (.int .i64 0) (.int .i64 0) (.string ⟨#[]⟩) (.int .i64 er) (.int .i64 ea)
            rw [hW, HF.out]
            exact parse_ret rfl rfl hA.drew hC.drew (World.ownsRow_nil _ _ _ _) hBB.drew
      · have hm2 : st.more = false := by simpa using hm
        rw [hm2] at d3
        have HEN := Lib.hid (show Plain.endSt st = st by unfold Plain.endSt; rw [if_neg hm])
        clear hm hm2 d1
        obtain ⟨w5, hw5⟩ : ∃ w5, w4 = w5 := ⟨_, rfl⟩
        have HR5 : Hid (Rs w5 b 66 s E (Plain.endSt st) X) := Lib.hid (by rw [HEN.out]; exact hw5 ▸ HR4.out)
        have HO5 := Lib.hid (hw5 ▸ HO4.out)
        have HB5 := Lib.hid (hw5 ▸ HB4.out)
        have HQ5 : Hid ((Plain.endSt st).er = 0 → _) := Lib.hid (by rw [HEN.out]; exact HQ.out)
        rw [hw5] at d3 ⊢
        clear hw5 HR4 HO4 HB4 HQ HEN
        have HP1 := Lib.hid (HB13.out.below HB5.out (by omega))
        have HP2 := Lib.hid (HB23.out.below HB5.out (by omega))
        have HBW5 := Lib.hid (HBW3.out.trans (HB5.out.mono (by omega)))
        have hlt5 := Rd.lt HR5.out
        have hl1 : w.heap.size < w5.heap.size := by omega
        have hl2 : w.heap.size + 1 < w5.heap.size := by omega
        obtain ⟨x0, x1, x2, x3, x4, x5, x6, x7, x8, x9, x10, x11, x12, x13⟩ := HP1.out.zeros
        have y0 := HP2.out.cell 0
        have y1 := HP2.out.cell 1
        have f1 := HP1.out.frozen
        have f2 := HP2.out.frozen
        have f3 := Rd.frozen HR5.out
        obtain ⟨e0, e1, e2, e3, e4, e5⟩ := Rd.cells HR5.out
        clear e0 e1 e2 e3
        obtain ⟨er, her⟩ : ∃ er, (Plain.endSt st).er = er := ⟨_, rfl⟩
        obtain ⟨ea, hea⟩ : ∃ ea, (Plain.endSt st).ea = ea := ⟨_, rfl⟩
        rw [her] at e4
        rw [hea] at e5
        by_cases h0 : er = 0
        · exact absurd (Plain.endSt_er (her.trans h0)) (by rw [← HST.out, Plain.bodySt_0]; exact fun h => Plain.fail_er (by decide) h)
        · have hq : (er != 0) = true := by simpa using h0
          have HF := Lib.hid (Plain.fieldsP_er (s := s) (e := E) (k := 0) (by rw [HST.out, her]; exact h0))
          rw [HST.out, her, hea] at HF
          clear HQ5 HO5 her hea h0
          go_wp2_with fail
          go_region
          all_goals
            go_wp2_with fail
            obtain ⟨W, hW, hA, hC, hBB, -, -⟩ := set_all HP1.out rfl HP2.out (by omega) HBW5.out (Nat.le_refl _) (by omega) (.int .i64 0) (.int .i64 0) (.bool false) (.int .i64 0) (.int .i64 0) (.int .i64 0) (.int .i64 0) (.int .i64 0) (.int .i64 0) (.slice none 0 0) (.int .i64 0) (.int .i64 0) (.int .i64 0) (.string ⟨#[]⟩) (.int .i64 er) (.int .i64 ea)
            rw [hW, HF.out]
            exact parse_ret rfl rfl hA.drew hC.drew (World.ownsRow_nil _ _ _ _) hBB.drew
end Go.Proofs.YteeekdffbcbamaaGreatDoor
