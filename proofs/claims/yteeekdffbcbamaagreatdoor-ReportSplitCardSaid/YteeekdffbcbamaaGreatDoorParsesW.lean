/-
  WALKS: the law ReportParses, given the reference's Parse.
-/
import Derived.Test.YteeekdffbcbamaaGreatDoorG7
namespace Go.Proofs.YteeekdffbcbamaaGreatDoor
open Go.RowKit
namespace Plain
theorem prnL_len {s : ByteArray} {e : Nat} : ∀ (k : Nat) (last : Int) (st : St), (prnL s e k last st).length ≤ k
  | 0, _, _ => Nat.le_refl 0
  | k + 1, last, st => by
    unfold prnL
    split
    · exact Nat.zero_le _
    · have := prnL_len (s := s) (e := e) k (numO s e st) (prnSt1 s e last st)
      rw [List.length_cons]
      omega
theorem body_len {s : ByteArray} {e k : Nat} (h : (endSt (bodySt s e k)).er = 0) : (bodySn s e k).prns.length ≤ 16 := by
  have h1 := endSt_er h
  by_cases hk : k = 1
  · subst hk
    rw [bodySt_1] at h1
    have h2 := num_range (by decide) (show (numSt s e (fixSt s e (stT s e) 7) 0 16 4).er = 0 from fixEnd_er h1)
    have h3 := prnL_len (s := s) (e := e) (fixMany s e (stT s e)) 0 (fixSt s e (stT s e) 8)
    show (prnL s e (fixMany s e (stT s e)) 0 (fixSt s e (stT s e) 8)).length ≤ 16
    unfold fixMany at h3 ⊢
    omega
  · unfold bodySn
    rw [if_neg hk]
    split
    · exact Nat.zero_le _
    · split
      · exact Nat.zero_le _
      · exact Nat.zero_le _
theorem parse_len (s : ByteArray) : (parse s).1.prns.length ≤ 9223372036854775807 := by
  unfold parse fieldsP
  split
  · exact Nat.zero_le _
  · split
    · exact Nat.zero_le _
    · next h => exact Nat.le_trans (body_len (by simpa using h)) (by decide)
end Plain
set_option maxRecDepth 100000 in
set_option maxHeartbeats 4000000 in
theorem parses_of (hrp : ∀ (s : ByteArray) (w : World), Calls Tryz.prog 15 #[.string s] w (ParsePost w (Plain.parse s))) (s : ByteArray) (w : World) (he : Env w) :
    Calls Tryz.prog 4 #[.string s] w fun en w' => en = .returned (.bool true) ∧ Below w.heap.size w w' := by
  have HA := Lib.hid (fun W he => awake_any W he)
  by_cases hl : 600 < s.size
  · have hl' : (600 : Int) < s.size := by omega
    go_enter Tryz.func4, Tryz.ntmps4
    go_wp2_with fail
    refine (HA.out w he).mono ?_
    rintro en w1 ⟨rfl, hb1⟩
    go_wp2_with fail
    go_ret
    exact ⟨rfl, hb1⟩
  · have hs : s.size ≤ 1000000 := by omega
    obtain ⟨te, pe, hV⟩ := he.2.2
    have HP := Lib.hid (parse_any s w hs te pe hV (by have := he.1; omega))
    have HRP := Lib.hid (fun W => hrp s W)
    have HS1 := Lib.hid (fun W => sum_any s W hs)
    have HS2 := Lib.hid (fun W => rsum_any s W hs)
    have HE := Lib.hid he; clear he hV hrp
    have hl' : ¬ (600 : Int) < s.size := by omega
    have hpl := Plain.parse_len s
    generalize Plain.parse s = r at HP HRP hpl
    obtain ⟨sn, er, ea⟩ := r
    have hSame := fun A1 A2 c1 c2 W h1 h2 => same_eq sn A1 A2 c1 c2 W hpl h1 h2
    unfold snCells at hSame
    have HSame := Lib.hid hSame; clear hSame hpl
    generalize Plain.sumN s.data.toList = sm at HS1 HS2
    go_enter Tryz.func4, Tryz.ntmps4
    go_wp2_with fail
    refine HP.out.mono ?_
    rintro en w1 ⟨v1, rfl, ho1, hb1⟩
    obtain ⟨A1, c1, rfl⟩ := own_formN ho1
    have P1 := Lib.hid (own_PrL ho1)
    have HB1 := Lib.hid hb1; clear ho1 hb1 HP
    unfold snCells
    go_wp2_with fail
    obtain ⟨w2, hw2⟩ : ∃ w2, (w1.alloc (.cells #[.int .i64 sn.kind, .int .i64 sn.time, .bool sn.ok, .int .i64 sn.p0, .int .i64 sn.p1, .int .i64 sn.p2, .int .i64 sn.l0, .int .i64 sn.l1, .int .i64 sn.l2, .slice A1 sn.prns.length c1, .int .i64 sn.prn, .int .i64 sn.lag, .int .i64 sn.power, .string sn.text] 28)).alloc (.cells #[.int .i64 er, .int .i64 ea] 39) = w2 := ⟨_, rfl⟩
    have hsz2 : w2.heap.size = w1.heap.size + 2 := by rw [← hw2]; simp
    have HX12 : Hid (Blk w2 w1.heap.size 28 #[.int .i64 sn.kind, .int .i64 sn.time, .bool sn.ok, .int .i64 sn.p0, .int .i64 sn.p1, .int .i64 sn.p2, .int .i64 sn.l0, .int .i64 sn.l1, .int .i64 sn.l2, .slice A1 sn.prns.length c1, .int .i64 sn.prn, .int .i64 sn.lag, .int .i64 sn.power, .string sn.text]) := Lib.hid (hw2 ▸ (Blk.new_at rfl).alloc _)
    have HF12 : Hid (Blk w2 (w1.heap.size + 1) 39 #[.int .i64 er, .int .i64 ea]) := Lib.hid (hw2 ▸ Blk.new_at (by simp))
    have hb12 : Below w1.heap.size w1 w2 := hw2 ▸ ((Below.refl _ _).alloc (Nat.le_refl _) _).alloc (by simp) _
    rw [hw2]
    clear hw2
    have P2 := Lib.hid (P1.out.below hb12 (Nat.le_refl _))
    have HB2 := Lib.hid (HB1.out.trans (hb12.mono HB1.out.size)); clear hb12
    refine (HRP.out w2).mono ?_
    rintro en w3 ⟨v2, rfl, ho2, hb3⟩
    obtain ⟨A2, c2, rfl⟩ := own_formN ho2
    have Q3 := Lib.hid (own_PrL ho2)
    have P3 := Lib.hid (P2.out.below hb3 (Nat.le_refl _))
    have HX13 := Lib.hid (HX12.out.below hb3 (by omega))
    have HF13 := Lib.hid (HF12.out.below hb3 (by omega))
    have hsz3 := hb3.size
    have HB3 := Lib.hid (HB2.out.trans (hb3.mono HB2.out.size)); clear ho2 hb3 HRP P1 P2 HB1
    unfold snCells
    go_upto_region 5 with (fail)
    obtain ⟨g1, hg1⟩ : ∃ g1, w1.heap.size = g1 := ⟨_, rfl⟩
    obtain ⟨g2, hg2⟩ : ∃ g2, w3.heap.size = g2 := ⟨_, rfl⟩
    obtain ⟨w5, hw5⟩ : ∃ w5, (w3.alloc (.cells #[.int .i64 sn.kind, .int .i64 sn.time, .bool sn.ok, .int .i64 sn.p0, .int .i64 sn.p1, .int .i64 sn.p2, .int .i64 sn.l0, .int .i64 sn.l1, .int .i64 sn.l2, .slice A2 sn.prns.length c2, .int .i64 sn.prn, .int .i64 sn.lag, .int .i64 sn.power, .string sn.text] 28)).alloc (.cells #[.int .i64 er, .int .i64 ea] 39) = w5 := ⟨_, rfl⟩
    have hsz5 : w5.heap.size = w3.heap.size + 2 := by rw [← hw5]; simp
    have HX25 : Hid (Blk w5 w3.heap.size 28 #[.int .i64 sn.kind, .int .i64 sn.time, .bool sn.ok, .int .i64 sn.p0, .int .i64 sn.p1, .int .i64 sn.p2, .int .i64 sn.l0, .int .i64 sn.l1, .int .i64 sn.l2, .slice A2 sn.prns.length c2, .int .i64 sn.prn, .int .i64 sn.lag, .int .i64 sn.power, .string sn.text]) := Lib.hid (hw5 ▸ (Blk.new_at rfl).alloc _)
    have HF25 : Hid (Blk w5 (w3.heap.size + 1) 39 #[.int .i64 er, .int .i64 ea]) := Lib.hid (hw5 ▸ Blk.new_at (by simp))
    have hb35 : Below w3.heap.size w3 w5 := hw5 ▸ ((Below.refl _ _).alloc (Nat.le_refl _) _).alloc (by simp) _
    rw [hw5]
    clear hw5
    have P5 := Lib.hid (P3.out.below hb35 (Nat.le_refl _))
    have Q5 := Lib.hid (Q3.out.below hb35 (Nat.le_refl _))
    have HX15 := Lib.hid (HX13.out.below hb35 (by omega))
    have HF15 := Lib.hid (HF13.out.below hb35 (by omega))
    have HB5 := Lib.hid (HB3.out.trans (hb35.mono HB3.out.size)); clear hb35 HB3 HB2 P3 Q3 HX13 HF13 HX12 HF12
    rw [hg1] at HX15 HF15 hsz2 ⊢
    rw [hg2] at HX25 HF25 hsz5 hsz3 ⊢
    have HSZ := Lib.hid (show g1 + 1 < w5.heap.size ∧ g2 + 1 < w5.heap.size by omega)
    clear hg1 hg2 hsz2 hsz3 hsz5
    obtain ⟨aa0, aa1, aa2, aa3, aa4, aa5, aa6, aa7, aa8, aa9, aa10, aa11, aa12, aa13⟩ := Blk.cells14 HX15.out
    obtain ⟨ab0, ab1, ab2, ab3, ab4, ab5, ab6, ab7, ab8, ab9, ab10, ab11, ab12, ab13⟩ := Blk.cells14 HX25.out
    have eF := eqFault_refl er ea
    go_wp2_with fail
    refine (HSame.out A1 A2 c1 c2 w5 P5.out Q5.out).mono ?_
    rintro en w6 ⟨rfl, hb6⟩
    have HF16 := Lib.hid (HF15.out.below hb6 (by have := HSZ.out; omega))
    have HF26 := Lib.hid (HF25.out.below hb6 (by have := HSZ.out; omega))
    have HB6 := Lib.hid (HB5.out.trans (hb6.mono HB5.out.size)); clear hb6 HX15 HX25 HF15 HF25 HB5
    have d0 := HF16.out.cell 0
    have d1 := HF16.out.cell 1
    have d2 := HF26.out.cell 0
    have d3 := HF26.out.cell 1
    go_wp2_with fail
    refine (HS1.out w6).mono ?_
    rintro en wj ⟨rfl, rfl⟩
    go_wp2_with fail
    refine (HS2.out w6).mono ?_
    rintro en wj ⟨rfl, rfl⟩
    go_wp2_with fail
    refine (HA.out w6 (HE.out.below HB6.out HE.out.1)).mono ?_
    rintro en w7 ⟨rfl, hb7⟩
    have HB7 := Lib.hid (HB6.out.trans (hb7.mono HB6.out.size)); clear hb7
    go_wp2_with fail
    go_ret
    exact ⟨rfl, HB7.out⟩
end Go.Proofs.YteeekdffbcbamaaGreatDoor
