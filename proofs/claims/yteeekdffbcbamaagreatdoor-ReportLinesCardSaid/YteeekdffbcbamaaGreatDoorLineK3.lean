/-
  WALKS: the line of a sentence that is right (package report): a text.
-/
import Derived.Test.YteeekdffbcbamaaGreatDoorG6
namespace Go.Proofs.YteeekdffbcbamaaGreatDoor
open Go.RowKit

set_option maxRecDepth 100000 in
set_option maxHeartbeats 4000000 in
theorem line_text (x : Plain.Sn) (A : Option Addr) (n c : Nat) (w : World) (he : Env w) (hk : x.kind = 3) (ht : 0 ≤ x.time ∧ x.time ≤ 604799999) (hs80 : x.text.size ≤ 80) :
    Calls Tryz.prog 40 #[.agg (snCells x (.slice A n c))] w fun en w' => en = .returned (.string (lineB x)) ∧ Below w.heap.size w w' := by
  have hfT : fieldsT x = ([(⟨#[84, 88, 84]⟩ : ByteArray)] ++ [x.time].map itoaB) ++ [x.text] := by
    unfold fieldsT
    rw [if_neg (by omega), if_neg (by omega)]
  have HFT := Lib.hid hfT
  have HY := Lib.hid (show ∀ y ∈ fieldsT x, y.size ≤ 80 by
    rw [hfT]
    intro y hy
    simp at hy
    rcases hy with rfl | rfl | rfl
    · decide
    · have := itoaB_size x.time (by omega) (by omega); omega
    · exact hs80)
  have HY2 := Lib.hid (show (fieldsT x).length ≤ 30 by rw [hfT]; simp)
  have HNE := Lib.hid (show (fieldsT x).length = 2 + 1 by rw [hfT]; simp)
  clear hfT
  unfold snCells
  rw [hk]
  have HE := Lib.hid he; clear he
  clear hk
  go_enter Tryz.func40, Tryz.ntmps40
  go_wp2_with fail
  obtain ⟨w4, hw4⟩ : ∃ w4, (((w.alloc (.cells #[.int .i64 3, .int .i64 x.time, .bool x.ok, .int .i64 x.p0, .int .i64 x.p1, .int .i64 x.p2, .int .i64 x.l0, .int .i64 x.l1, .int .i64 x.l2, .slice A n c, .int .i64 x.prn, .int .i64 x.lag, .int .i64 x.power, .string x.text] 28)).alloc (.cells #[.slice (some ⟨w.heap.size + 1 + 1, 0, none⟩) 1 1] 94)).alloc (.cells #[.string ⟨#[84, 88, 84]⟩] 9)).alloc (.cells #[.int .i64 x.time] 3) = w4 := ⟨_, rfl⟩
  have hX4 : Blk w4 w.heap.size 28 #[.int .i64 3, .int .i64 x.time, .bool x.ok, .int .i64 x.p0, .int .i64 x.p1, .int .i64 x.p2, .int .i64 x.l0, .int .i64 x.l1, .int .i64 x.l2, .slice A n c, .int .i64 x.prn, .int .i64 x.lag, .int .i64 x.power, .string x.text] := hw4 ▸ (((Blk.new_at rfl).alloc _).alloc _).alloc _
  have hF4 : Blk w4 (w.heap.size + 1) 94 #[.slice (some ⟨w.heap.size + 1 + 1, 0, none⟩) 1 1] := hw4 ▸ ((Blk.new_at (by simp)).alloc _).alloc _
  have hS4 : Blk w4 (w.heap.size + 1 + 1) 9 #[.string ⟨#[84, 88, 84]⟩] := hw4 ▸ (Blk.new_at (by simp)).alloc _
  have hI4 : Blk w4 (w.heap.size + 1 + 1 + 1) 3 #[.int .i64 x.time] := hw4 ▸ Blk.new_at (by simp)
  have hB4 : Below w.heap.size w w4 := hw4 ▸ ((((Below.refl _ _).alloc (Nat.le_refl _) _).alloc (by simp) _).alloc (by simp; omega) _).alloc (by simp; omega) _
  rw [hw4]
  clear hw4
  have hA4 := add_any (w.heap.size + 1) [⟨#[84, 88, 84]⟩] (some ⟨w.heap.size + 1 + 1 + 1, 0, none⟩) 1 [x.time] w4 (HE.out.below hB4 HE.out.1) (by have := HE.out.1; omega) (fld_lit hF4 hS4 (by omega)) (num_blk hI4 (by omega) (fun j h => by
    obtain rfl : j = 0 := by simp at h; omega
    rfl)) (fun z hz => by simp at hz; omega) (by simp)
  have HA4 := Lib.hid hA4; clear hA4
  have HB4 := Lib.hid hB4; clear hB4
  have HX4 := Lib.hid hX4; clear hX4
  clear hF4 hS4 hI4
  refine HA4.out.mono ?_
  rintro en w5 ⟨rfl, hF5, hB5⟩
  have hX5 := HX4.out.below hB5 (by omega)
  have HBB := Lib.hid (HB4.out.trans (hB5.mono (by omega)))
  have hx13 := hX5.cell 13
  obtain ⟨v, hfb, hown⟩ := hF5
  have hcf := hfb.cell 0
  have hfr := hfb.frozen
  have hltf := hfb.lt
  have HFB := Lib.hid hfb; clear hfb
  have HOW := Lib.hid hown; clear hown
  clear hB5 hX5
  have HI := Lib.hid (info_parts infoS)
  clear HX4 HB4 HA4
  go_upto_region 5 with (fail)
  obtain ⟨ss, hss⟩ : ∃ ss, [(⟨#[84, 88, 84]⟩ : ByteArray)] ++ [x.time].map itoaB = ss := ⟨_, rfl⟩
  have hsl : ss.length = 2 := by rw [← hss]; rfl
  rw [hss] at HOW HFT
  have HSL := Lib.hid hsl; clear hsl hss
  obtain ⟨i0, hi, hz0, hz1, hz2⟩ := HI.out
  go_upto_region 16 with (at_builtin; refine wpList_append_own _ rfl _ _ 94 rfl (w.heap.size + 1 + 1) 9 i0 _ 1 16 Tryz.underlying94 hi hz0 hz1 hz2 rfl (by decide) _ _ _ rfl (HOW.out.alloc _) ⟨w5.heap.size, 0, none⟩ 1 1 [.string x.text] rfl rfl ?_ ?_ ?_ ?_ ?_ ?_; rotate_left 5; intro v' w6 hown6 hg6 _; obtain ⟨g', cap', rfl⟩ := ownsRow_succ hown6; have hfb6 := fblk5 HFB.out HOW.out hg6; have c6 := hfb6.cell 0; have hfr6 := hfb6.frozen; clear hfb6; have HPU := Lib.hid (fld_push HFB.out HOW.out hg6 hown6 HBB.out (Nat.le_succ _)); clear hg6 hown6)
  rotate_left 1
  · exact cell_new_at _ _ _ _ (by simp)
  · simp [Value.oneCell']
  · have := HSL.out; unfold maxLen; omega
  · have := HSL.out; omega
  · simp; omega
  obtain ⟨w9, hw9⟩ : ∃ w9, w6.setCell ⟨w.heap.size + 1, 0, none⟩ (.slice (some ⟨g', 0, none⟩) (ss.length + 1) cap') = w9 := ⟨_, rfl⟩
  rw [hw9] at HPU ⊢
  have HER : Hid (EndR w w9 (w.heap.size + 1) x) := Lib.hid ⟨by rw [HFT.out]; exact HPU.out.1, rfl, HPU.out.2⟩
  clear hw9 c6 hfr6 HPU HFB HOW hi hz0 hz1 hz2 hx13 hcf hfr hltf HBB
  have HS80 := Lib.hid (body_le x HY.out HY2.out)
  obtain ⟨v, hfb, hown⟩ := HER.out.fld
  obtain ⟨A5, n5, c5, hv5⟩ := own_form hown
  subst hv5
  obtain ⟨g5, hg5⟩ : ∃ g, A5 = some ⟨g, 0, none⟩ := by
    rcases hown.2 with ⟨_, h0⟩ | ⟨g, cap, cur, hv, _⟩
    · exact absurd h0 (by rw [HNE.out]; exact Nat.succ_ne_zero _)
    · exact ⟨g, by injection hv⟩
  subst hg5
  have hn5 : n5 = (fieldsT x).length := by
    rcases hown.2 with ⟨_, h0⟩ | ⟨g, cap, cur, hv, _⟩
    · exact absurd h0 (by rw [HNE.out]; exact Nat.succ_ne_zero _)
    · injection hv
  subst hn5
  have hcap : (fieldsT x).length ≤ c5 := by
    rcases hown.2 with ⟨_, h0⟩ | ⟨g, cap, cur, hv, _, _, hc, _⟩
    · exact absurd h0 (by rw [HNE.out]; exact Nat.succ_ne_zero _)
    · injection hv with _ _ h3
      omega
  have hcf := hfb.cell 0
  have hlt5 := (hown.lt g5 rfl).2
  have hjoin := join_any g5 0 c5 (fieldsT x) w9 (fun j y hy => by
    have := hown.cells (g := g5) rfl j (.string y) (by rw [List.getElem?_map, hy]; rfl)
    have e : (⟨g5, 0, none⟩ : Addr).add j = ⟨g5, 0 + j, none⟩ := by
      unfold Addr.add
      split
      · subst_vars; rfl
      · rfl
    rw [e] at this
    exact this) hlt5 (by have := HY2.out; omega) hcap (by have := HS80.out; omega)
  have HJ := Lib.hid hjoin; clear hjoin
  obtain ⟨s, hs⟩ : ∃ s, joinB (fieldsT x) = s := ⟨_, rfl⟩
  rw [hs] at HJ
  have hss : s.size ≤ 3000 := by rw [← hs, ← Plain.len_size]; exact HS80.out
  have HL := Lib.hid (show lineB x = wrapB s by unfold lineB bodyT; rw [hs])
  clear hs
  obtain ⟨m, hm⟩ : ∃ m, Plain.sumN s.data.toList = m := ⟨_, rfl⟩
  have hm256 := Plain.sumN_lt s.data.toList
  have HSum := Lib.hid (fun W => sum_any s W (by omega))
  rw [hm] at hm256 HSum
  obtain ⟨q, hq⟩ : ∃ q, m / 16 = q := ⟨_, rfl⟩
  obtain ⟨r, hr⟩ : ∃ r, m % 16 = r := ⟨_, rfl⟩
  have HW := Lib.hid (show wrapB s = (((⟨#[36]⟩ : ByteArray) ++ s) ++ ⟨#[42]⟩) ++ hexB.extract q (q + 1) ++ hexB.extract r (r + 1) by unfold wrapB; rw [hm, hq, hr])
  obtain ⟨ha, hsh⟩ := and15 m q r hm256 hq hr
  have hq15 : q ≤ 15 := by omega
  have hr15 : r ≤ 15 := by omega
  have HA := Lib.hid ha; clear ha
  have HSH := Lib.hid hsh; clear hsh
  clear hm hq hr
  have HG5 := Lib.hid hfb; clear hfb
  have HB5 := Lib.hid HER.out.bel
  have hnlen : (fieldsT x).length ≤ 30 := HY2.out
  generalize (fieldsT x).length = n5 at *
  clear hown HER
  go_wp2_with fail
  refine HJ.out.mono ?_
  rintro en wa ⟨rfl, hba⟩
  have HBa := Lib.hid (HB5.out.trans (hba.mono HB5.out.size)); clear hba
  go_wp2_with fail
  refine (HSum.out _).mono ?_
  rintro en wb ⟨rfl, rfl⟩
  go_wp2_with fail
  have ha := HA.out
  have hsh := HSH.out
  have w1 : IntKind.i64.wrap ((q : Int) + 1) = (q : Int) + 1 := IntWalk.i64_in _ (by omega)
  have w2 : IntKind.i64.wrap ((r : Int) + 1) = (r : Int) + 1 := IntWalk.i64_in _ (by omega)
  have t1 : ((q : Int) + 1).toNat = q + 1 := by omega
  have t2 : ((r : Int) + 1).toNat = r + 1 := by omega
  have b1 : (q : Int) + 1 ≤ 16 := by omega
  have b2 : (r : Int) + 1 ≤ 16 := by omega
  obtain ⟨C1, hC1⟩ : ∃ C, (⟨#[36]⟩ : ByteArray) ++ s = C := ⟨_, rfl⟩
  obtain ⟨C2, hC2⟩ : ∃ C, C1 ++ (⟨#[42]⟩ : ByteArray) = C := ⟨_, rfl⟩
  obtain ⟨C3, hC3⟩ : ∃ C, C2 ++ (⟨#[48, 49, 50, 51, 52, 53, 54, 55, 56, 57, 65, 66, 67, 68, 69, 70]⟩ : ByteArray).extract q (q + 1) = C := ⟨_, rfl⟩
  obtain ⟨C4, hC4⟩ : ∃ C, C3 ++ (⟨#[48, 49, 50, 51, 52, 53, 54, 55, 56, 57, 65, 66, 67, 68, 69, 70]⟩ : ByteArray).extract r (r + 1) = C := ⟨_, rfl⟩
  have z1 : C1.size = s.size + 1 := by rw [← hC1, ByteArray.size_append]; show 1 + s.size = _; omega
  have z2 : C2.size = s.size + 2 := by rw [← hC2, ByteArray.size_append, z1]; rfl
  have x1 : ((⟨#[48, 49, 50, 51, 52, 53, 54, 55, 56, 57, 65, 66, 67, 68, 69, 70]⟩ : ByteArray).extract q (q + 1)).size ≤ 16 := by rw [ByteArray.size_extract]; have : (⟨#[48, 49, 50, 51, 52, 53, 54, 55, 56, 57, 65, 66, 67, 68, 69, 70]⟩ : ByteArray).size = 16 := rfl; omega
  have x2 : ((⟨#[48, 49, 50, 51, 52, 53, 54, 55, 56, 57, 65, 66, 67, 68, 69, 70]⟩ : ByteArray).extract r (r + 1)).size ≤ 16 := by rw [ByteArray.size_extract]; have : (⟨#[48, 49, 50, 51, 52, 53, 54, 55, 56, 57, 65, 66, 67, 68, 69, 70]⟩ : ByteArray).size = 16 := rfl; omega
  have z3 : C3.size ≤ s.size + 18 := by rw [← hC3, ByteArray.size_append, z2]; omega
  have S1 : ∀ W, (Op.stringOp .add (⟨#[36]⟩ : ByteArray) s).run Tryz.prog W = .ok (.string C1) W := fun W => by rw [← hC1]; exact run_string_add_sum W _ _ (by show 1 + s.size ≤ _; omega)
  have S2 : ∀ W, (Op.stringOp .add C1 (⟨#[42]⟩ : ByteArray)).run Tryz.prog W = .ok (.string C2) W := fun W => by rw [← hC2]; exact run_string_add_sum W _ _ (by rw [z1]; show s.size + 1 + 1 ≤ _; omega)
  have S3 : ∀ W, (Op.stringOp .add C2 ((⟨#[48, 49, 50, 51, 52, 53, 54, 55, 56, 57, 65, 66, 67, 68, 69, 70]⟩ : ByteArray).extract q (q + 1))).run Tryz.prog W = .ok (.string C3) W := fun W => by rw [← hC3]; exact run_string_add_sum W _ _ (by rw [z2]; omega)
  have S4 : ∀ W, (Op.stringOp .add C3 ((⟨#[48, 49, 50, 51, 52, 53, 54, 55, 56, 57, 65, 66, 67, 68, 69, 70]⟩ : ByteArray).extract r (r + 1))).run Tryz.prog W = .ok (.string C4) W := fun W => by rw [← hC4]; exact run_string_add_sum W _ _ (by omega)
  have HC := Lib.hid (show lineB x = C4 by rw [HL.out, HW.out, hC1, hC2]; show C2 ++ (⟨#[48, 49, 50, 51, 52, 53, 54, 55, 56, 57, 65, 66, 67, 68, 69, 70]⟩ : ByteArray).extract q (q + 1) ++ (⟨#[48, 49, 50, 51, 52, 53, 54, 55, 56, 57, 65, 66, 67, 68, 69, 70]⟩ : ByteArray).extract r (r + 1) = _; rw [hC3, hC4])
  clear hC1 hC2 hC3 hC4 z1 z2 z3 x1 x2 HL HW
  have X1 : ∀ W, (Instr.slice 9 (.string (⟨#[48, 49, 50, 51, 52, 53, 54, 55, 56, 57, 65, 66, 67, 68, 69, 70]⟩ : ByteArray)) (some (.int .i64 (q : Int))) (some (.int .i64 ((q : Int) + 1))) none).run Tryz.prog W = .ok (.string ((⟨#[48, 49, 50, 51, 52, 53, 54, 55, 56, 57, 65, 66, 67, 68, 69, 70]⟩ : ByteArray).extract q (q + 1))) W := fun W => by
    have := run_slice_string (w := W) 9 (⟨#[48, 49, 50, 51, 52, 53, 54, 55, 56, 57, 65, 66, 67, 68, 69, 70]⟩ : ByteArray) .i64 .i64 (q : Int) ((q : Int) + 1) Tryz.underlying9 (by omega) (by omega) (by show _ ≤ ((16 : Nat) : Int); omega)
    rw [t1, Int.toNat_natCast] at this
    exact this
  have X2 : ∀ W, (Instr.slice 9 (.string (⟨#[48, 49, 50, 51, 52, 53, 54, 55, 56, 57, 65, 66, 67, 68, 69, 70]⟩ : ByteArray)) (some (.int .i64 (r : Int))) (some (.int .i64 ((r : Int) + 1))) none).run Tryz.prog W = .ok (.string ((⟨#[48, 49, 50, 51, 52, 53, 54, 55, 56, 57, 65, 66, 67, 68, 69, 70]⟩ : ByteArray).extract r (r + 1))) W := fun W => by
    have := run_slice_string (w := W) 9 (⟨#[48, 49, 50, 51, 52, 53, 54, 55, 56, 57, 65, 66, 67, 68, 69, 70]⟩ : ByteArray) .i64 .i64 (r : Int) ((r : Int) + 1) Tryz.underlying9 (by omega) (by omega) (by show _ ≤ ((16 : Nat) : Int); omega)
    rw [t2, Int.toNat_natCast] at this
    exact this
  go_quiet (fail)
  go_wp2_with fail
  go_ret
  exact ⟨by rw [HC.out]; rfl, below_drewN HBa.out _⟩
end Go.Proofs.YteeekdffbcbamaaGreatDoor
