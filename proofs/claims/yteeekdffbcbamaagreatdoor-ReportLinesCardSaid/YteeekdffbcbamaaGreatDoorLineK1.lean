/-
  WALKS: the line of a sentence that is right (package report): a fix.
-/
import Derived.Test.YteeekdffbcbamaaGreatDoorG6
namespace Go.Proofs.YteeekdffbcbamaaGreatDoor
open Go.RowKit

set_option maxRecDepth 100000 in
set_option maxHeartbeats 4000000 in
theorem line_fix (x : Plain.Sn) (A : Option Addr) (n c : Nat) (w : World) (he : Env w) (hk : x.kind = 1) (ht : ∀ z ∈ [x.time, oneI x.ok] ++ [x.p0, x.p1, x.p2] ++ [x.l0, x.l1, x.l2] ++ x.prns, -9223372036854775808 ≤ z ∧ z ≤ 9223372036854775807) (hn : x.prns.length = n) (hn16 : n ≤ 16) (hPr : PrL w A x.prns) :
    Calls Tryz.prog 40 #[.agg (snCells x (.slice A n c))] w fun en w' => en = .returned (.string (lineB x)) ∧ Below w.heap.size w w' := by
  have hfT : fieldsT x = [(⟨#[70, 73, 88]⟩ : ByteArray)] ++ [x.time, oneI x.ok].map itoaB ++ [x.p0, x.p1, x.p2].map itoaB ++ [x.l0, x.l1, x.l2].map itoaB ++ [(x.prns.length : Int)].map itoaB ++ x.prns.map itoaB := by
    unfold fieldsT
    rw [if_pos (by omega)]
  have HFT := Lib.hid hfT
  have HY := Lib.hid (show ∀ y ∈ fieldsT x, y.size ≤ 80 by
    have hlong : ∀ z, -9223372036854775808 ≤ z ∧ z ≤ 9223372036854775807 → (itoaB z).size ≤ 80 := fun z hz => by have := itoaB_size z hz.1 hz.2; omega
    rw [hfT]
    intro y hy
    simp only [List.mem_append, List.mem_map] at hy
    rcases hy with ((((hy | ⟨z, hz, rfl⟩) | ⟨z, hz, rfl⟩) | ⟨z, hz, rfl⟩) | ⟨z, hz, rfl⟩) | ⟨z, hz, rfl⟩
    · simp at hy
      subst hy
      decide
    · exact hlong z (ht z (by simp at hz ⊢; omega))
    · exact hlong z (ht z (by simp only [List.mem_append]; exact Or.inl (Or.inl (Or.inr hz))))
    · exact hlong z (ht z (by simp only [List.mem_append]; exact Or.inl (Or.inr hz)))
    · simp at hz
      subst hz
      exact hlong _ (by omega)
    · exact hlong z (ht z (by simp only [List.mem_append]; exact Or.inr hz)))
  have HY2 := Lib.hid (show (fieldsT x).length ≤ 30 by rw [hfT]; simp; omega)
  have HNE := Lib.hid (show (fieldsT x).length = (9 + n) + 1 by rw [hfT]; simp; omega)
  have HPr := Lib.hid hPr; clear hPr
  have HLN := Lib.hid hn; clear hn
  clear hfT
  unfold snCells
  rw [hk]
  have HE := Lib.hid he; clear he
  have HTM := Lib.hid ht; clear ht
  clear hk
  go_enter Tryz.func40, Tryz.ntmps40
  go_wp2_with fail
  obtain ⟨w4, hw4⟩ : ∃ w4, ((w.alloc (.cells #[.int .i64 1, .int .i64 x.time, .bool x.ok, .int .i64 x.p0, .int .i64 x.p1, .int .i64 x.p2, .int .i64 x.l0, .int .i64 x.l1, .int .i64 x.l2, .slice A n c, .int .i64 x.prn, .int .i64 x.lag, .int .i64 x.power, .string x.text] 28)).alloc (.cells #[.slice (some ⟨w.heap.size + 1 + 1, 0, none⟩) 1 1] 94)).alloc (.cells #[.string ⟨#[70, 73, 88]⟩] 9) = w4 := ⟨_, rfl⟩
  have hX4 : Blk w4 w.heap.size 28 #[.int .i64 1, .int .i64 x.time, .bool x.ok, .int .i64 x.p0, .int .i64 x.p1, .int .i64 x.p2, .int .i64 x.l0, .int .i64 x.l1, .int .i64 x.l2, .slice A n c, .int .i64 x.prn, .int .i64 x.lag, .int .i64 x.power, .string x.text] := hw4 ▸ ((Blk.new_at rfl).alloc _).alloc _
  have hF4 : Blk w4 (w.heap.size + 1) 94 #[.slice (some ⟨w.heap.size + 1 + 1, 0, none⟩) 1 1] := hw4 ▸ (Blk.new_at (by simp)).alloc _
  have hS4 : Blk w4 (w.heap.size + 1 + 1) 9 #[.string ⟨#[70, 73, 88]⟩] := hw4 ▸ Blk.new_at (by simp)
  have hB4 : Below w.heap.size w w4 := hw4 ▸ (((Below.refl _ _).alloc (Nat.le_refl _) _).alloc (by simp) _).alloc (by simp; omega) _
  have hlt4 : w.heap.size + 1 + 1 < w4.heap.size := by rw [← hw4]; simp
  rw [hw4]
  clear hw4
  have HF4 : Hid (FldR w4 (w.heap.size + 1) [⟨#[70, 73, 88]⟩]) := Lib.hid (fld_lit hF4 hS4 (by omega))
  obtain ⟨k0, k1, k2, k3, k4, k5, k6, k7, k8, k9, k10, k11, k12, k13⟩ := Blk.cells14 hX4
  have HX4 := Lib.hid hX4; clear hX4
  have HB4 := Lib.hid hB4; clear hB4
  clear hF4 hS4

  obtain ⟨ov, hov⟩ : ∃ z, oneI x.ok = z := ⟨_, rfl⟩
  have HOV := Lib.hid hov
  have HONE := Lib.hid (fun W => one_any x.ok W)
  rw [hov] at HONE
  have hB4a : Below w.heap.size w ((w4.alloc (.cells #[.int .i64 x.time, .int .i64 ov] 3)).drew) := Below.drew (HB4.out.alloc (by omega) _)
  have hA4 := add_any (w.heap.size + 1) [⟨#[70, 73, 88]⟩] (some ⟨w4.heap.size, 0, none⟩) 2 [x.time, ov] ((w4.alloc (.cells #[.int .i64 x.time, .int .i64 ov] 3)).drew) (HE.out.below hB4a HE.out.1) (by have := HE.out.1; omega) (show FldR (w4.alloc _) _ _ from HF4.out.below ((Below.refl _ _).alloc (Nat.le_refl _) _)) (num_blk (w := w4.alloc _) (Blk.new_at rfl) (by omega) (fun j h => by
    have hj : j < 2 := h
    match j, hj with
    | 0, _ => rfl
    | 1, _ => rfl)) (fun z hz => HTM.out z (by rw [HOV.out]; first | exact hz | (simp at hz ⊢; omega))) (by simp)
  have HA4 := Lib.hid hA4; clear hA4
  have HB4a := Lib.hid hB4a; clear hB4a
  have HX4a : Hid (Blk ((w4.alloc (.cells #[.int .i64 x.time, .int .i64 ov] 3)).drew) w.heap.size 28 #[.int .i64 1, .int .i64 x.time, .bool x.ok, .int .i64 x.p0, .int .i64 x.p1, .int .i64 x.p2, .int .i64 x.l0, .int .i64 x.l1, .int .i64 x.l2, .slice A n c, .int .i64 x.prn, .int .i64 x.lag, .int .i64 x.power, .string x.text]) := Lib.hid (HX4.out.alloc _).drew
  clear hov
  go_region_held3 (fun w' => w'.cell? ⟨w.heap.size, 1, none⟩ = some (.int .i64 x.time) ∧ w'.cell? ⟨w.heap.size, 2, none⟩ = some (.bool x.ok)) (first | go_keep | exact ⟨m1, m2⟩)
    (first
      | (go_at_call 61; refine (HONE.out _).mono ?_; rintro en w4' ⟨rfl, rfl⟩)
      | (go_at_call 60; refine HA4.out.mono ?_; rintro en w5 ⟨rfl, hF5, hB5⟩; have hX5 := HX4a.out.below hB5 (by omega); obtain ⟨m0, m1, m2, m3, m4, m5, m6, m7, m8, m9, m10, m11, m12, m13⟩ := Blk.cells14 hX5; have HX5 := Lib.hid hX5; clear hX5; have HF5 := Lib.hid hF5; clear hF5; have HB5 := Lib.hid (HB4a.out.trans (hB5.mono (by omega))); clear hB5))
  clear k0 k1 k2 k3 k4 k5 k6 k7 k8 k9 k10 k11 k12 k13 HA4 HB4a HX4a HONE HF4 HX4 HB4 m0 m1 m2 m3 m4 m5 m6 m7 m8 m9 m10 m11 m12 m13
  obtain ⟨m0, m1, m2, m3, m4, m5, m6, m7, m8, m9, m10, m11, m12, m13⟩ := Blk.cells14 HX5.out
  go_wp2_with fail
  have hBa : Below w.heap.size w w5 := HB5.out
  have hA6 := add_any (w.heap.size + 1) ([⟨#[70, 73, 88]⟩] ++ [x.time, ov].map itoaB) (some ⟨w.heap.size, 3, none⟩) 3 ([x.p0, x.p1, x.p2]) w5 (HE.out.below hBa HE.out.1) (by have := HE.out.1; omega) (HF5.out) (num_in HX5.out (by omega) (fun j h => by
    match j, (show j < 3 from h) with
    | 0, _ => rfl
    | 1, _ => rfl
    | 2, _ => rfl)) (fun z hz => HTM.out z (by simp only [List.mem_append]; exact Or.inl (Or.inl (Or.inr hz)))) (by simp)
  refine hA6.mono ?_
  rintro en w6 ⟨rfl, hF6, hB6⟩
  have HX6 := Lib.hid (Blk.below (HX5.out) hB6 (by omega))
  have HF6 := Lib.hid hF6; clear hF6
  have HB6 := Lib.hid (hBa.trans (hB6.mono (by omega))); clear hB6 hBa hA6
  clear m0 m1 m2 m3 m4 m5 m6 m7 m8 m9 m10 m11 m12 m13 HX5 HF5 HB5
  obtain ⟨m0, m1, m2, m3, m4, m5, m6, m7, m8, m9, m10, m11, m12, m13⟩ := Blk.cells14 HX6.out
  go_wp2_with fail
  have hBa : Below w.heap.size w w6 := HB6.out
  have hA7 := add_any (w.heap.size + 1) ([⟨#[70, 73, 88]⟩] ++ [x.time, ov].map itoaB ++ [x.p0, x.p1, x.p2].map itoaB) (some ⟨w.heap.size, 6, none⟩) 3 ([x.l0, x.l1, x.l2]) w6 (HE.out.below hBa HE.out.1) (by have := HE.out.1; omega) (HF6.out) (num_in HX6.out (by omega) (fun j h => by
    match j, (show j < 3 from h) with
    | 0, _ => rfl
    | 1, _ => rfl
    | 2, _ => rfl)) (fun z hz => HTM.out z (by simp only [List.mem_append]; exact Or.inl (Or.inr hz))) (by simp)
  refine hA7.mono ?_
  rintro en w7 ⟨rfl, hF7, hB7⟩
  have HX7 := Lib.hid (Blk.below (HX6.out) hB7 (by omega))
  have HF7 := Lib.hid hF7; clear hF7
  have HB7 := Lib.hid (hBa.trans (hB7.mono (by omega))); clear hB7 hBa hA7
  clear m0 m1 m2 m3 m4 m5 m6 m7 m8 m9 m10 m11 m12 m13 HX6 HF6 HB6
  obtain ⟨m0, m1, m2, m3, m4, m5, m6, m7, m8, m9, m10, m11, m12, m13⟩ := Blk.cells14 HX7.out
  go_wp2_with fail
  have hBa : Below w.heap.size w (w7.alloc (.cells #[.int .i64 (n : Int)] 3)) := HB7.out.alloc HB7.out.size _
  have hA8 := add_any (w.heap.size + 1) ([⟨#[70, 73, 88]⟩] ++ [x.time, ov].map itoaB ++ [x.p0, x.p1, x.p2].map itoaB ++ [x.l0, x.l1, x.l2].map itoaB) (some ⟨w7.heap.size, 0, none⟩) 1 ([(n : Int)]) (w7.alloc (.cells #[.int .i64 (n : Int)] 3)) (HE.out.below hBa HE.out.1) (by have := HE.out.1; omega) (HF7.out.below ((Below.refl _ _).alloc (Nat.le_refl _) _)) (num_blk (w := w7.alloc _) (Blk.new_at rfl) (by have := HX7.out.lt; have := HF7.out; obtain ⟨_, h1, _⟩ := this; have := h1.lt; omega) (fun j h => by
    obtain rfl : j = 0 := by simp at h; omega
    rfl)) (fun z hz => by simp at hz; omega) (by simp)
  refine hA8.mono ?_
  rintro en w8 ⟨rfl, hF8, hB8⟩
  have HX8 := Lib.hid (Blk.below (HX7.out.alloc _) hB8 (by omega))
  have HF8 := Lib.hid hF8; clear hF8
  have HB8 := Lib.hid (hBa.trans (hB8.mono (by omega))); clear hB8 hBa hA8
  clear m0 m1 m2 m3 m4 m5 m6 m7 m8 m9 m10 m11 m12 m13 HX7 HF7 HB7
  obtain ⟨m0, m1, m2, m3, m4, m5, m6, m7, m8, m9, m10, m11, m12, m13⟩ := Blk.cells14 HX8.out
  go_wp2_with fail
  have hBa : Below w.heap.size w w8 := HB8.out
  have hA9 := add_any (w.heap.size + 1) ([⟨#[70, 73, 88]⟩] ++ [x.time, ov].map itoaB ++ [x.p0, x.p1, x.p2].map itoaB ++ [x.l0, x.l1, x.l2].map itoaB ++ [(n : Int)].map itoaB) (A) c (x.prns) w8 (HE.out.below hBa HE.out.1) (by have := HE.out.1; omega) (HF8.out) (num_lowB HPr.out hBa (by omega)) (fun z hz => HTM.out z (by simp only [List.mem_append]; exact Or.inr hz)) (by rw [HLN.out]; simp; omega)
  rw [HLN.out] at hA9
  refine hA9.mono ?_
  rintro en w9 ⟨rfl, hF9, hB9⟩
  have HX9 := Lib.hid (Blk.below (HX8.out) hB9 (by omega))
  have HF9 := Lib.hid hF9; clear hF9
  have HB9 := Lib.hid (hBa.trans (hB9.mono (by omega))); clear hB9 hBa hA9
  clear m0 m1 m2 m3 m4 m5 m6 m7 m8 m9 m10 m11 m12 m13 HX8 HF8 HB8
  have HER : Hid (EndR w w9 (w.heap.size + 1) x) := Lib.hid ⟨by rw [HFT.out, HOV.out, HLN.out]; exact HF9.out, rfl, HB9.out⟩
  clear HX9 HF9 HB9
  have HS80 := Lib.hid (body_le x HY.out HY2.out)
  obtain ⟨v, hfb, hown⟩ := HER.out.fld
  obtain ⟨A5, n5, c5, hv5⟩ := own_form hown
  subst hv5
  obtain ⟨g5, hg5⟩ : ∃ g, A5 = some ⟨g, 0, none⟩ := by
    rcases hown.2 with ⟨_, h0⟩ | ⟨g, cap, cur, hv, _⟩
    · exact absurd h0 (by rw [HNE.out]; exact Nat.succ_ne_zero _)
    · exact ⟨g, by injection hv⟩
  subst hg5
  have hn5 : n5 = (fieldsT x).length := by
    rcases hown.2 with ⟨_, h0⟩ | ⟨g, cap, cur, hv, _⟩
    · exact absurd h0 (by rw [HNE.out]; exact Nat.succ_ne_zero _)
    · injection hv
  subst hn5
  have hcap : (fieldsT x).length ≤ c5 := by
    rcases hown.2 with ⟨_, h0⟩ | ⟨g, cap, cur, hv, _, _, hc, _⟩
    · exact absurd h0 (by rw [HNE.out]; exact Nat.succ_ne_zero _)
    · injection hv with _ _ h3
      omega
  have hcf := hfb.cell 0
  have hlt5 := (hown.lt g5 rfl).2
  have hjoin := join_any g5 0 c5 (fieldsT x) w9 (fun j y hy => by
    have := hown.cells (g := g5) rfl j (.string y) (by rw [List.getElem?_map, hy]; rfl)
    have e : (⟨g5, 0, none⟩ : Addr).add j = ⟨g5, 0 + j, none⟩ := by
      unfold Addr.add
      split
      · subst_vars; rfl
      · rfl
    rw [e] at this
    exact this) hlt5 (by have := HY2.out; omega) hcap (by have := HS80.out; omega)
  have HJ := Lib.hid hjoin; clear hjoin
  obtain ⟨s, hs⟩ : ∃ s, joinB (fieldsT x) = s := ⟨_, rfl⟩
  rw [hs] at HJ
  have hss : s.size ≤ 3000 := by rw [← hs, ← Plain.len_size]; exact HS80.out
  have HL := Lib.hid (show lineB x = wrapB s by unfold lineB bodyT; rw [hs])
  clear hs
  obtain ⟨m, hm⟩ : ∃ m, Plain.sumN s.data.toList = m := ⟨_, rfl⟩
  have hm256 := Plain.sumN_lt s.data.toList
  have HSum := Lib.hid (fun W => sum_any s W (by omega))
  rw [hm] at hm256 HSum
  obtain ⟨q, hq⟩ : ∃ q, m / 16 = q := ⟨_, rfl⟩
  obtain ⟨r, hr⟩ : ∃ r, m % 16 = r := ⟨_, rfl⟩
  have HW := Lib.hid (show wrapB s = (((⟨#[36]⟩ : ByteArray) ++ s) ++ ⟨#[42]⟩) ++ hexB.extract q (q + 1) ++ hexB.extract r (r + 1) by unfold wrapB; rw [hm, hq, hr])
  obtain ⟨ha, hsh⟩ := and15 m q r hm256 hq hr
  have hq15 : q ≤ 15 := by omega
  have hr15 : r ≤ 15 := by omega
  have HA := Lib.hid ha; clear ha
  have HSH := Lib.hid hsh; clear hsh
  clear hm hq hr
  have HG5 := Lib.hid hfb; clear hfb
  have HB5 := Lib.hid HER.out.bel
  have hnlen : (fieldsT x).length ≤ 30 := HY2.out
  generalize (fieldsT x).length = n5 at *
  clear hown HER
  go_wp2_with fail
  refine HJ.out.mono ?_
  rintro en wa ⟨rfl, hba⟩
  have HBa := Lib.hid (HB5.out.trans (hba.mono HB5.out.size)); clear hba
  go_wp2_with fail
  refine (HSum.out _).mono ?_
  rintro en wb ⟨rfl, rfl⟩
  go_wp2_with fail
  have ha := HA.out
  have hsh := HSH.out
  have w1 : IntKind.i64.wrap ((q : Int) + 1) = (q : Int) + 1 := IntWalk.i64_in _ (by omega)
  have w2 : IntKind.i64.wrap ((r : Int) + 1) = (r : Int) + 1 := IntWalk.i64_in _ (by omega)
  have t1 : ((q : Int) + 1).toNat = q + 1 := by omega
  have t2 : ((r : Int) + 1).toNat = r + 1 := by omega
  have b1 : (q : Int) + 1 ≤ 16 := by omega
  have b2 : (r : Int) + 1 ≤ 16 := by omega
  obtain ⟨C1, hC1⟩ : ∃ C, (⟨#[36]⟩ : ByteArray) ++ s = C := ⟨_, rfl⟩
  obtain ⟨C2, hC2⟩ : ∃ C, C1 ++ (⟨#[42]⟩ : ByteArray) = C := ⟨_, rfl⟩
  obtain ⟨C3, hC3⟩ : ∃ C, C2 ++ (⟨#[48, 49, 50, 51, 52, 53, 54, 55, 56, 57, 65, 66, 67, 68, 69, 70]⟩ : ByteArray).extract q (q + 1) = C := ⟨_, rfl⟩
  obtain ⟨C4, hC4⟩ : ∃ C, C3 ++ (⟨#[48, 49, 50, 51, 52, 53, 54, 55, 56, 57, 65, 66, 67, 68, 69, 70]⟩ : ByteArray).extract r (r + 1) = C := ⟨_, rfl⟩
  have z1 : C1.size = s.size + 1 := by rw [← hC1, ByteArray.size_append]; show 1 + s.size = _; omega
  have z2 : C2.size = s.size + 2 := by rw [← hC2, ByteArray.size_append, z1]; rfl
  have x1 : ((⟨#[48, 49, 50, 51, 52, 53, 54, 55, 56, 57, 65, 66, 67, 68, 69, 70]⟩ : ByteArray).extract q (q + 1)).size ≤ 16 := by rw [ByteArray.size_extract]; have : (⟨#[48, 49, 50, 51, 52, 53, 54, 55, 56, 57, 65, 66, 67, 68, 69, 70]⟩ : ByteArray).size = 16 := rfl; omega
  have x2 : ((⟨#[48, 49, 50, 51, 52, 53, 54, 55, 56, 57, 65, 66, 67, 68, 69, 70]⟩ : ByteArray).extract r (r + 1)).size ≤ 16 := by rw [ByteArray.size_extract]; have : (⟨#[48, 49, 50, 51, 52, 53, 54, 55, 56, 57, 65, 66, 67, 68, 69, 70]⟩ : ByteArray).size = 16 := rfl; omega
  have z3 : C3.size ≤ s.size + 18 := by rw [← hC3, ByteArray.size_append, z2]; omega
  have S1 : ∀ W, (Op.stringOp .add (⟨#[36]⟩ : ByteArray) s).run Tryz.prog W = .ok (.string C1) W := fun W => by rw [← hC1]; exact run_string_add_sum W _ _ (by show 1 + s.size ≤ _; omega)
  have S2 : ∀ W, (Op.stringOp .add C1 (⟨#[42]⟩ : ByteArray)).run Tryz.prog W = .ok (.string C2) W := fun W => by rw [← hC2]; exact run_string_add_sum W _ _ (by rw [z1]; show s.size + 1 + 1 ≤ _; omega)
  have S3 : ∀ W, (Op.stringOp .add C2 ((⟨#[48, 49, 50, 51, 52, 53, 54, 55, 56, 57, 65, 66, 67, 68, 69, 70]⟩ : ByteArray).extract q (q + 1))).run Tryz.prog W = .ok (.string C3) W := fun W => by rw [← hC3]; exact run_string_add_sum W _ _ (by rw [z2]; omega)
  have S4 : ∀ W, (Op.stringOp .add C3 ((⟨#[48, 49, 50, 51, 52, 53, 54, 55, 56, 57, 65, 66, 67, 68, 69, 70]⟩ : ByteArray).extract r (r + 1))).run Tryz.prog W = .ok (.string C4) W := fun W => by rw [← hC4]; exact run_string_add_sum W _ _ (by omega)
  have HC := Lib.hid (show lineB x = C4 by rw [HL.out, HW.out, hC1, hC2]; show C2 ++ (⟨#[48, 49, 50, 51, 52, 53, 54, 55, 56, 57, 65, 66, 67, 68, 69, 70]⟩ : ByteArray).extract q (q + 1) ++ (⟨#[48, 49, 50, 51, 52, 53, 54, 55, 56, 57, 65, 66, 67, 68, 69, 70]⟩ : ByteArray).extract r (r + 1) = _; rw [hC3, hC4])
  clear hC1 hC2 hC3 hC4 z1 z2 z3 x1 x2 HL HW
  have X1 : ∀ W, (Instr.slice 9 (.string (⟨#[48, 49, 50, 51, 52, 53, 54, 55, 56, 57, 65, 66, 67, 68, 69, 70]⟩ : ByteArray)) (some (.int .i64 (q : Int))) (some (.int .i64 ((q : Int) + 1))) none).run Tryz.prog W = .ok (.string ((⟨#[48, 49, 50, 51, 52, 53, 54, 55, 56, 57, 65, 66, 67, 68, 69, 70]⟩ : ByteArray).extract q (q + 1))) W := fun W => by
    have := run_slice_string (w := W) 9 (⟨#[48, 49, 50, 51, 52, 53, 54, 55, 56, 57, 65, 66, 67, 68, 69, 70]⟩ : ByteArray) .i64 .i64 (q : Int) ((q : Int) + 1) Tryz.underlying9 (by omega) (by omega) (by show _ ≤ ((16 : Nat) : Int); omega)
    rw [t1, Int.toNat_natCast] at this
    exact this
  have X2 : ∀ W, (Instr.slice 9 (.string (⟨#[48, 49, 50, 51, 52, 53, 54, 55, 56, 57, 65, 66, 67, 68, 69, 70]⟩ : ByteArray)) (some (.int .i64 (r : Int))) (some (.int .i64 ((r : Int) + 1))) none).run Tryz.prog W = .ok (.string ((⟨#[48, 49, 50, 51, 52, 53, 54, 55, 56, 57, 65, 66, 67, 68, 69, 70]⟩ : ByteArray).extract r (r + 1))) W := fun W => by
    have := run_slice_string (w := W) 9 (⟨#[48, 49, 50, 51, 52, 53, 54, 55, 56, 57, 65, 66, 67, 68, 69, 70]⟩ : ByteArray) .i64 .i64 (r : Int) ((r : Int) + 1) Tryz.underlying9 (by omega) (by omega) (by show _ ≤ ((16 : Nat) : Int); omega)
    rw [t2, Int.toNat_natCast] at this
    exact this
  go_quiet (fail)
  go_wp2_with fail
  go_ret
  exact ⟨by rw [HC.out]; rfl, below_drewN HBa.out _⟩
end Go.Proofs.YteeekdffbcbamaaGreatDoor
