/-
  WALKS: the line of a sentence that is right (package report): a channel.
-/
import Derived.Test.YteeekdffbcbamaaGreatDoorG6
namespace Go.Proofs.YteeekdffbcbamaaGreatDoor
open Go.RowKit

set_option maxRecDepth 100000 in
set_option maxHeartbeats 4000000 in
theorem line_chan (x : Plain.Sn) (A : Option Addr) (n c : Nat) (w : World) (he : Env w) (hk : x.kind = 2) (ht : ∀ z ∈ [x.time, oneI x.ok, x.prn, x.lag, x.power], -9223372036854775808 ≤ z ∧ z ≤ 9223372036854775807) :
    Calls Tryz.prog 40 #[.agg (snCells x (.slice A n c))] w fun en w' => en = .returned (.string (lineB x)) ∧ Below w.heap.size w w' := by
  have hfT : fieldsT x = [(⟨#[83, 65, 84]⟩ : ByteArray)] ++ [x.time, oneI x.ok, x.prn, x.lag, x.power].map itoaB := by
    unfold fieldsT
    rw [if_neg (by omega), if_pos (by omega)]
  have HFT := Lib.hid hfT
  have HY := Lib.hid (show ∀ y ∈ fieldsT x, y.size ≤ 80 by
    have hlong : ∀ z, -9223372036854775808 ≤ z ∧ z ≤ 9223372036854775807 → (itoaB z).size ≤ 80 := fun z hz => by have := itoaB_size z hz.1 hz.2; omega
    rw [hfT]
    intro y hy
    rcases List.mem_append.1 hy with hy | hy
    · simp at hy
      subst hy
      decide
    · obtain ⟨z, hz, rfl⟩ := List.mem_map.1 hy
      exact hlong z (ht z hz))
  have HY2 := Lib.hid (show (fieldsT x).length ≤ 30 by rw [hfT]; simp)
  have HNE := Lib.hid (show (fieldsT x).length = 5 + 1 by rw [hfT]; simp)
  clear hfT
  unfold snCells
  rw [hk]
  have HE := Lib.hid he; clear he
  have HTM := Lib.hid ht; clear ht
  clear hk
  go_enter Tryz.func40, Tryz.ntmps40
  go_wp2_with fail
  obtain ⟨w4, hw4⟩ : ∃ w4, ((w.alloc (.cells #[.int .i64 2, .int .i64 x.time, .bool x.ok, .int .i64 x.p0, .int .i64 x.p1, .int .i64 x.p2, .int .i64 x.l0, .int .i64 x.l1, .int .i64 x.l2, .slice A n c, .int .i64 x.prn, .int .i64 x.lag, .int .i64 x.power, .string x.text] 28)).alloc (.cells #[.slice (some ⟨w.heap.size + 1 + 1, 0, none⟩) 1 1] 94)).alloc (.cells #[.string ⟨#[83, 65, 84]⟩] 9) = w4 := ⟨_, rfl⟩
  have hX4 : Blk w4 w.heap.size 28 #[.int .i64 2, .int .i64 x.time, .bool x.ok, .int .i64 x.p0, .int .i64 x.p1, .int .i64 x.p2, .int .i64 x.l0, .int .i64 x.l1, .int .i64 x.l2, .slice A n c, .int .i64 x.prn, .int .i64 x.lag, .int .i64 x.power, .string x.text] := hw4 ▸ ((Blk.new_at rfl).alloc _).alloc _
  have hF4 : Blk w4 (w.heap.size + 1) 94 #[.slice (some ⟨w.heap.size + 1 + 1, 0, none⟩) 1 1] := hw4 ▸ (Blk.new_at (by simp)).alloc _
  have hS4 : Blk w4 (w.heap.size + 1 + 1) 9 #[.string ⟨#[83, 65, 84]⟩] := hw4 ▸ Blk.new_at (by simp)
  have hB4 : Below w.heap.size w w4 := hw4 ▸ (((Below.refl _ _).alloc (Nat.le_refl _) _).alloc (by simp) _).alloc (by simp; omega) _
  have hlt4 : w.heap.size + 1 + 1 < w4.heap.size := by rw [← hw4]; simp
  rw [hw4]
  clear hw4
  have HF4 : Hid (FldR w4 (w.heap.size + 1) [⟨#[83, 65, 84]⟩]) := Lib.hid (fld_lit hF4 hS4 (by omega))
  obtain ⟨k0, k1, k2, k3, k4, k5, k6, k7, k8, k9, k10, k11, k12, k13⟩ := Blk.cells14 hX4
  have HX4 := Lib.hid hX4; clear hX4
  have HB4 := Lib.hid hB4; clear hB4
  clear hF4 hS4

  obtain ⟨ov, hov⟩ : ∃ z, oneI x.ok = z := ⟨_, rfl⟩
  have HOV := Lib.hid hov
  have HONE := Lib.hid (fun W => one_any x.ok W)
  rw [hov] at HONE
  have hB4a : Below w.heap.size w ((w4.alloc (.cells #[.int .i64 x.time, .int .i64 ov, .int .i64 x.prn, .int .i64 x.lag, .int .i64 x.power] 3)).drew) := Below.drew (HB4.out.alloc (by omega) _)
  have hA4 := add_any (w.heap.size + 1) [⟨#[83, 65, 84]⟩] (some ⟨w4.heap.size, 0, none⟩) 5 [x.time, ov, x.prn, x.lag, x.power] ((w4.alloc (.cells #[.int .i64 x.time, .int .i64 ov, .int .i64 x.prn, .int .i64 x.lag, .int .i64 x.power] 3)).drew) (HE.out.below hB4a HE.out.1) (by have := HE.out.1; omega) (show FldR (w4.alloc _) _ _ from HF4.out.below ((Below.refl _ _).alloc (Nat.le_refl _) _)) (num_blk (w := w4.alloc _) (Blk.new_at rfl) (by omega) (fun j h => by
    have hj : j < 5 := h
    match j, hj with
    | 0, _ => rfl
    | 1, _ => rfl
    | 2, _ => rfl
    | 3, _ => rfl
    | 4, _ => rfl)) (fun z hz => HTM.out z (by rw [HOV.out]; first | exact hz | (simp at hz ⊢; omega))) (by simp)
  have HA4 := Lib.hid hA4; clear hA4
  have HB4a := Lib.hid hB4a; clear hB4a
  have HX4a : Hid (Blk ((w4.alloc (.cells #[.int .i64 x.time, .int .i64 ov, .int .i64 x.prn, .int .i64 x.lag, .int .i64 x.power] 3)).drew) w.heap.size 28 #[.int .i64 2, .int .i64 x.time, .bool x.ok, .int .i64 x.p0, .int .i64 x.p1, .int .i64 x.p2, .int .i64 x.l0, .int .i64 x.l1, .int .i64 x.l2, .slice A n c, .int .i64 x.prn, .int .i64 x.lag, .int .i64 x.power, .string x.text]) := Lib.hid (HX4.out.alloc _).drew
  clear hov
  go_region_held3 (fun w' => w'.cell? ⟨w.heap.size, 1, none⟩ = some (.int .i64 x.time) ∧ w'.cell? ⟨w.heap.size, 2, none⟩ = some (.bool x.ok) ∧ w'.cell? ⟨w.heap.size, 10, none⟩ = some (.int .i64 x.prn) ∧ w'.cell? ⟨w.heap.size, 11, none⟩ = some (.int .i64 x.lag) ∧ w'.cell? ⟨w.heap.size, 12, none⟩ = some (.int .i64 x.power)) (first | go_keep | exact ⟨m1, m2, m10, m11, m12⟩)
    (first
      | (go_at_call 61; refine (HONE.out _).mono ?_; rintro en w4' ⟨rfl, rfl⟩)
      | (go_at_call 60; refine HA4.out.mono ?_; rintro en w5 ⟨rfl, hF5, hB5⟩; have hX5 := HX4a.out.below hB5 (by omega); obtain ⟨m0, m1, m2, m3, m4, m5, m6, m7, m8, m9, m10, m11, m12, m13⟩ := Blk.cells14 hX5; have HX5 := Lib.hid hX5; clear hX5; have HF5 := Lib.hid hF5; clear hF5; have HB5 := Lib.hid (HB4a.out.trans (hB5.mono (by omega))); clear hB5))
  obtain ⟨w9, hw9⟩ : ∃ w9, w5 = w9 := ⟨_, rfl⟩
  have HER : Hid (EndR w w9 (w.heap.size + 1) x) := Lib.hid ⟨by rw [HFT.out, HOV.out, ← hw9]; exact HF5.out, rfl, hw9 ▸ HB5.out⟩
  rw [hw9]
  clear hw9 m0 m1 m2 m3 m4 m5 m6 m7 m8 m9 m10 m11 m12 m13 k0 k1 k2 k3 k4 k5 k6 k7 k8 k9 k10 k11 k12 k13 HX5 HF5 HB5 HA4 HB4a HX4a HONE HF4 HX4 HB4
  have HS80 := Lib.hid (body_le x HY.out HY2.out)
  obtain ⟨v, hfb, hown⟩ := HER.out.fld
  obtain ⟨A5, n5, c5, hv5⟩ := own_form hown
  subst hv5
  obtain ⟨g5, hg5⟩ : ∃ g, A5 = some ⟨g, 0, none⟩ := by
    rcases hown.2 with ⟨_, h0⟩ | ⟨g, cap, cur, hv, _⟩
    · exact absurd h0 (by rw [HNE.out]; exact Nat.succ_ne_zero _)
    · exact ⟨g, by injection hv⟩
  subst hg5
  have hn5 : n5 = (fieldsT x).length := by
    rcases hown.2 with ⟨_, h0⟩ | ⟨g, cap, cur, hv, _⟩
    · exact absurd h0 (by rw [HNE.out]; exact Nat.succ_ne_zero _)
    · injection hv
  subst hn5
  have hcap : (fieldsT x).length ≤ c5 := by
    rcases hown.2 with ⟨_, h0⟩ | ⟨g, cap, cur, hv, _, _, hc, _⟩
    · exact absurd h0 (by rw [HNE.out]; exact Nat.succ_ne_zero _)
    · injection hv with _ _ h3
      omega
  have hcf := hfb.cell 0
  have hlt5 := (hown.lt g5 rfl).2
  have hjoin := join_any g5 0 c5 (fieldsT x) w9 (fun j y hy => by
    have := hown.cells (g := g5) rfl j (.string y) (by rw [List.getElem?_map, hy]; rfl)
    have e : (⟨g5, 0, none⟩ : Addr).add j = ⟨g5, 0 + j, none⟩ := by
      unfold Addr.add
      split
      · subst_vars; rfl
      · rfl
    rw [e] at this
    exact this) hlt5 (by have := HY2.out; omega) hcap (by have := HS80.out; omega)
  have HJ := Lib.hid hjoin; clear hjoin
  obtain ⟨s, hs⟩ : ∃ s, joinB (fieldsT x) = s := ⟨_, rfl⟩
  rw [hs] at HJ
  have hss : s.size ≤ 3000 := by rw [← hs, ← Plain.len_size]; exact HS80.out
  have HL := Lib.hid (show lineB x = wrapB s by unfold lineB bodyT; rw [hs])
  clear hs
  obtain ⟨m, hm⟩ : ∃ m, Plain.sumN s.data.toList = m := ⟨_, rfl⟩
  have hm256 := Plain.sumN_lt s.data.toList
  have HSum := Lib.hid (fun W => sum_any s W (by omega))
  rw [hm] at hm256 HSum
  obtain ⟨q, hq⟩ : ∃ q, m / 16 = q := ⟨_, rfl⟩
  obtain ⟨r, hr⟩ : ∃ r, m % 16 = r := ⟨_, rfl⟩
  have HW := Lib.hid (show wrapB s = (((⟨#[36]⟩ : ByteArray) ++ s) ++ ⟨#[42]⟩) ++ hexB.extract q (q + 1) ++ hexB.extract r (r + 1) by unfold wrapB; rw [hm, hq, hr])
  obtain ⟨ha, hsh⟩ := and15 m q r hm256 hq hr
  have hq15 : q ≤ 15 := by omega
  have hr15 : r ≤ 15 := by omega
  have HA := Lib.hid ha; clear ha
  have HSH := Lib.hid hsh; clear hsh
  clear hm hq hr
  have HG5 := Lib.hid hfb; clear hfb
  have HB5 := Lib.hid HER.out.bel
  have hnlen : (fieldsT x).length ≤ 30 := HY2.out
  generalize (fieldsT x).length = n5 at *
  clear hown HER
  go_wp2_with fail
  refine HJ.out.mono ?_
  rintro en wa ⟨rfl, hba⟩
  have HBa := Lib.hid (HB5.out.trans (hba.mono HB5.out.size)); clear hba
  go_wp2_with fail
  refine (HSum.out _).mono ?_
  rintro en wb ⟨rfl, rfl⟩
  go_wp2_with fail
  have ha := HA.out
  have hsh := HSH.out
  have w1 : IntKind.i64.wrap ((q : Int) + 1) = (q : Int) + 1 := IntWalk.i64_in _ (by omega)
  have w2 : IntKind.i64.wrap ((r : Int) + 1) = (r : Int) + 1 := IntWalk.i64_in _ (by omega)
  have t1 : ((q : Int) + 1).toNat = q + 1 := by omega
  have t2 : ((r : Int) + 1).toNat = r + 1 := by omega
  have b1 : (q : Int) + 1 ≤ 16 := by omega
  have b2 : (r : Int) + 1 ≤ 16 := by omega
  obtain ⟨C1, hC1⟩ : ∃ C, (⟨#[36]⟩ : ByteArray) ++ s = C := ⟨_, rfl⟩
  obtain ⟨C2, hC2⟩ : ∃ C, C1 ++ (⟨#[42]⟩ : ByteArray) = C := ⟨_, rfl⟩
  obtain ⟨C3, hC3⟩ : ∃ C, C2 ++ (⟨#[48, 49, 50, 51, 52, 53, 54, 55, 56, 57, 65, 66, 67, 68, 69, 70]⟩ : ByteArray).extract q (q + 1) = C := ⟨_, rfl⟩
  obtain ⟨C4, hC4⟩ : ∃ C, C3 ++ (⟨#[48, 49, 50, 51, 52, 53, 54, 55, 56, 57, 65, 66, 67, 68, 69, 70]⟩ : ByteArray).extract r (r + 1) = C := ⟨_, rfl⟩
  have z1 : C1.size = s.size + 1 := by rw [← hC1, ByteArray.size_append]; show 1 + s.size = _; omega
  have z2 : C2.size = s.size + 2 := by rw [← hC2, ByteArray.size_append, z1]; rfl
  have x1 : ((⟨#[48, 49, 50, 51, 52, 53, 54, 55, 56, 57, 65, 66, 67, 68, 69, 70]⟩ : ByteArray).extract q (q + 1)).size ≤ 16 := by rw [ByteArray.size_extract]; have : (⟨#[48, 49, 50, 51, 52, 53, 54, 55, 56, 57, 65, 66, 67, 68, 69, 70]⟩ : ByteArray).size = 16 := rfl; omega
  have x2 : ((⟨#[48, 49, 50, 51, 52, 53, 54, 55, 56, 57, 65, 66, 67, 68, 69, 70]⟩ : ByteArray).extract r (r + 1)).size ≤ 16 := by rw [ByteArray.size_extract]; have : (⟨#[48, 49, 50, 51, 52, 53, 54, 55, 56, 57, 65, 66, 67, 68, 69, 70]⟩ : ByteArray).size = 16 := rfl; omega
  have z3 : C3.size ≤ s.size + 18 := by rw [← hC3, ByteArray.size_append, z2]; omega
  have S1 : ∀ W, (Op.stringOp .add (⟨#[36]⟩ : ByteArray) s).run Tryz.prog W = .ok (.string C1) W := fun W => by rw [← hC1]; exact run_string_add_sum W _ _ (by show 1 + s.size ≤ _; omega)
  have S2 : ∀ W, (Op.stringOp .add C1 (⟨#[42]⟩ : ByteArray)).run Tryz.prog W = .ok (.string C2) W := fun W => by rw [← hC2]; exact run_string_add_sum W _ _ (by rw [z1]; show s.size + 1 + 1 ≤ _; omega)
  have S3 : ∀ W, (Op.stringOp .add C2 ((⟨#[48, 49, 50, 51, 52, 53, 54, 55, 56, 57, 65, 66, 67, 68, 69, 70]⟩ : ByteArray).extract q (q + 1))).run Tryz.prog W = .ok (.string C3) W := fun W => by rw [← hC3]; exact run_string_add_sum W _ _ (by rw [z2]; omega)
  have S4 : ∀ W, (Op.stringOp .add C3 ((⟨#[48, 49, 50, 51, 52, 53, 54, 55, 56, 57, 65, 66, 67, 68, 69, 70]⟩ : ByteArray).extract r (r + 1))).run Tryz.prog W = .ok (.string C4) W := fun W => by rw [← hC4]; exact run_string_add_sum W _ _ (by omega)
  have HC := Lib.hid (show lineB x = C4 by rw [HL.out, HW.out, hC1, hC2]; show C2 ++ (⟨#[48, 49, 50, 51, 52, 53, 54, 55, 56, 57, 65, 66, 67, 68, 69, 70]⟩ : ByteArray).extract q (q + 1) ++ (⟨#[48, 49, 50, 51, 52, 53, 54, 55, 56, 57, 65, 66, 67, 68, 69, 70]⟩ : ByteArray).extract r (r + 1) = _; rw [hC3, hC4])
  clear hC1 hC2 hC3 hC4 z1 z2 z3 x1 x2 HL HW
  have X1 : ∀ W, (Instr.slice 9 (.string (⟨#[48, 49, 50, 51, 52, 53, 54, 55, 56, 57, 65, 66, 67, 68, 69, 70]⟩ : ByteArray)) (some (.int .i64 (q : Int))) (some (.int .i64 ((q : Int) + 1))) none).run Tryz.prog W = .ok (.string ((⟨#[48, 49, 50, 51, 52, 53, 54, 55, 56, 57, 65, 66, 67, 68, 69, 70]⟩ : ByteArray).extract q (q + 1))) W := fun W => by
    have := run_slice_string (w := W) 9 (⟨#[48, 49, 50, 51, 52, 53, 54, 55, 56, 57, 65, 66, 67, 68, 69, 70]⟩ : ByteArray) .i64 .i64 (q : Int) ((q : Int) + 1) Tryz.underlying9 (by omega) (by omega) (by show _ ≤ ((16 : Nat) : Int); omega)
    rw [t1, Int.toNat_natCast] at this
    exact this
  have X2 : ∀ W, (Instr.slice 9 (.string (⟨#[48, 49, 50, 51, 52, 53, 54, 55, 56, 57, 65, 66, 67, 68, 69, 70]⟩ : ByteArray)) (some (.int .i64 (r : Int))) (some (.int .i64 ((r : Int) + 1))) none).run Tryz.prog W = .ok (.string ((⟨#[48, 49, 50, 51, 52, 53, 54, 55, 56, 57, 65, 66, 67, 68, 69, 70]⟩ : ByteArray).extract r (r + 1))) W := fun W => by
    have := run_slice_string (w := W) 9 (⟨#[48, 49, 50, 51, 52, 53, 54, 55, 56, 57, 65, 66, 67, 68, 69, 70]⟩ : ByteArray) .i64 .i64 (r : Int) ((r : Int) + 1) Tryz.underlying9 (by omega) (by omega) (by show _ ≤ ((16 : Nat) : Int); omega)
    rw [t2, Int.toNat_natCast] at this
    exact this
  go_quiet (fail)
  go_wp2_with fail
  go_ret
  exact ⟨by rw [HC.out]; rfl, below_drewN HBa.out _⟩
end Go.Proofs.YteeekdffbcbamaaGreatDoor
