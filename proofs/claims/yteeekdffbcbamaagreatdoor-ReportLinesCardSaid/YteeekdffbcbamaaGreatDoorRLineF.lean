/-
  WALKS: the reference's Line of a sentence that is right: a fix.
-/
import Derived.Test.YteeekdffbcbamaaGreatDoorRLineP
namespace Go.Proofs.YteeekdffbcbamaaGreatDoor
open Go.RowKit
set_option maxRecDepth 100000 in
set_option maxHeartbeats 8000000 in
theorem rline_fix (x : Plain.Sn) (A : Option Addr) (c : Nat) (w : World) (hN : PrL w A x.prns) (hs : x.text.size ≤ 1000000) (hn : x.prns.length ≤ 9223372036854775807) (h0 : Plain.checkE x = 0) (hk : x.kind = 1) :
    Calls Tryz.prog 20 #[.agg (snCells x (.slice A x.prns.length c))] w (LinePost w (lineB x, 0)) := by
  have HC := Lib.hid (fun W hN => rcheck_any x A c W hN hs hn)
  rw [h0] at HC
  have HN0 := Lib.hid (hN.below ((Below.refl _ _).alloc (Nat.le_refl w.heap.size) (.cells (snCells x (.slice A x.prns.length c)) 28)) (Nat.le_refl _))
  have ht := Plain.zero_time h0
  obtain ⟨ov, hov⟩ : ∃ z, oneI x.ok = z := ⟨_, rfl⟩
  have ho := oneI_range x.ok
  rw [hov] at ho
  have hfT : fieldsT x = [(⟨#[70, 73, 88]⟩ : ByteArray)] ++ [x.time, ov].map itoaB ++ [x.p0, x.p1, x.p2].map itoaB ++ [x.l0, x.l1, x.l2].map itoaB ++ [(x.prns.length : Int)].map itoaB ++ x.prns.map itoaB := by
    unfold fieldsT
    rw [if_pos hk, hov]
  obtain ⟨_, hlv, hp16, hpr⟩ := Plain.zero_1 h0 hk
  have hlr := Plain.level_range hlv
  have hr2 := fun z hz => Plain.prnsE_range hpr z hz
  have hr : ∀ z ∈ [x.time, ov, x.p0, x.p1, x.p2, x.l0, x.l1, x.l2, (x.prns.length : Int)], -9223372036854775807 ≤ z ∧ z ≤ 9223372036854775807 := fun z hz => by
    have h6 := hlr z
    simp only [List.mem_cons, List.not_mem_nil, or_false] at hz h6
    rcases hz with h | h | h | h | h | h | h | h | h
    · subst h; omega
    · subst h; omega
    all_goals first | omega | (have := h6 (by simp [h]); omega)
  have HD := Lib.hid (fun z (hz : z ∈ [x.time, ov, x.p0, x.p1, x.p2, x.l0, x.l1, x.l2, (x.prns.length : Int)]) W => decimal_any z W (hr z hz).1 (hr z hz).2)
  have HDS := Lib.hid (fun z (hz : z ∈ [x.time, ov, x.p0, x.p1, x.p2, x.l0, x.l1, x.l2, (x.prns.length : Int)]) => itoaB_size z (by have := hr z hz; omega) (hr z hz).2)
  have HONE := Lib.hid (fun W => rbit_any x.ok W)
  rw [hov] at HONE
  have HFT := Lib.hid hfT; clear hfT
  unfold snCells at *
  rw [hk] at HC HN0 ⊢
  obtain ⟨n, hnl⟩ : ∃ n, x.prns.length = n := ⟨_, rfl⟩
  rw [hnl] at HC HN0 ⊢
  have z0 : (⟨#[70, 73, 88, 44]⟩ : ByteArray).size ≤ 4 := by decide
  obtain ⟨C1, hC1⟩ : ∃ C, (⟨#[70, 73, 88, 44]⟩ : ByteArray) ++ itoaB x.time = C := ⟨_, rfl⟩
  have S1 : ∀ W, (Op.stringOp .add (⟨#[70, 73, 88, 44]⟩ : ByteArray) (itoaB x.time)).run Tryz.prog W = .ok (.string C1) W := fun W => by rw [← hC1]; exact run_string_add_sum W _ _ (by have := HDS.out x.time (by simp); omega)
  have z1 : C1.size ≤ 25 := by rw [← hC1, ByteArray.size_append]; have := HDS.out x.time (by simp); omega
  obtain ⟨C2, hC2⟩ : ∃ C, C1 ++ (⟨#[44]⟩ : ByteArray) = C := ⟨_, rfl⟩
  have S2 : ∀ W, (Op.stringOp .add C1 (⟨#[44]⟩ : ByteArray)).run Tryz.prog W = .ok (.string C2) W := fun W => by rw [← hC2]; exact run_string_add_sum W _ _ (by have : (⟨#[44]⟩ : ByteArray).size = 1 := rfl; omega)
  have z2 : C2.size ≤ 26 := by rw [← hC2, ByteArray.size_append]; have : (⟨#[44]⟩ : ByteArray).size = 1 := rfl; omega
  obtain ⟨C3, hC3⟩ : ∃ C, C2 ++ itoaB ov = C := ⟨_, rfl⟩
  have S3 : ∀ W, (Op.stringOp .add C2 (itoaB ov)).run Tryz.prog W = .ok (.string C3) W := fun W => by rw [← hC3]; exact run_string_add_sum W _ _ (by have := HDS.out ov (by simp); omega)
  have z3 : C3.size ≤ 47 := by rw [← hC3, ByteArray.size_append]; have := HDS.out ov (by simp); omega
  have HDP := Lib.hid (fun k (hk : k < 3) W => HD.out (Plain.pos x k) (by
    have : k = 0 ∨ k = 1 ∨ k = 2 := by omega
    rcases this with rfl | rfl | rfl <;> simp [Plain.pos]) W)
  have HZP := Lib.hid (fun k (hk : k < 3) => HDS.out (Plain.pos x k) (by
    have : k = 0 ∨ k = 1 ∨ k = 2 := by omega
    rcases this with rfl | rfl | rfl <;> simp [Plain.pos]))
  have HDL := Lib.hid (fun k (hk : k < 3) W => HD.out (Plain.lev x k) (by
    have : k = 0 ∨ k = 1 ∨ k = 2 := by omega
    rcases this with rfl | rfl | rfl <;> simp [Plain.lev]) W)
  have HZL := Lib.hid (fun k (hk : k < 3) => HDS.out (Plain.lev x k) (by
    have : k = 0 ∨ k = 1 ∨ k = 2 := by omega
    rcases this with rfl | rfl | rfl <;> simp [Plain.lev]))
  have HDN := Lib.hid (fun W => HD.out (x.prns.length : Int) (by simp) W)
  have HZN := Lib.hid (HDS.out (x.prns.length : Int) (by simp))
  have HDR := Lib.hid (fun k (hk : k < x.prns.length) W => decimal_any x.prns[k] W (by have := hr2 _ (List.getElem_mem hk); omega) (by have := hr2 _ (List.getElem_mem hk); omega))
  have HZR := Lib.hid (fun k (hk : k < x.prns.length) => itoaB_size x.prns[k] (by have := hr2 _ (List.getElem_mem hk); omega) (by have := hr2 _ (List.getElem_mem hk); omega))
  obtain ⟨F0, hF0⟩ : ∃ F, [(⟨#[70, 73, 88]⟩ : ByteArray)] ++ [x.time, ov].map itoaB = F := ⟨_, rfl⟩
  have HJ0 := Lib.hid (show joinB F0 = C3 by
    rw [← hF0]
    show joinB ([(⟨#[70, 73, 88]⟩ : ByteArray)] ++ [itoaB x.time] ++ [itoaB ov]) = _
    rw [joinB_snoc _ _ (by simp), joinB_snoc _ _ (by simp), joinB_one, ← hC3, ← hC2, ← hC1]
    rfl)
  have HNE := Lib.hid (show F0 ≠ [] by rw [← hF0]; simp)
  have HFT2 := Lib.hid (show fieldsT x = F0 ++ [x.p0, x.p1, x.p2].map itoaB ++ [x.l0, x.l1, x.l2].map itoaB ++ [itoaB (x.prns.length : Int)] ++ x.prns.map itoaB by rw [HFT.out, hF0]; rfl)
  have HZ3 := Lib.hid z3
  have HLN := Lib.hid hnl
  rw [hnl] at HDN HZN
  have hn16 : n ≤ 16 := by omega
  have HN := Lib.hid hN
  clear hC1 hC2 hC3 z0 z1 z2 z3
  clear hlv hpr hlr hr2 hp16 ht ho hov hr h0 hs hn hN hk hnl hF0 HDS HFT
  go_enter Tryz.func20, Tryz.ntmps20
  go_wp2_with fail
  refine (HC.out _ HN0.out).mono ?_
  rintro en w1 ⟨rfl, hb1⟩
  have hX1 : Blk w1 w.heap.size 28 #[.int .i64 1, .int .i64 x.time, .bool x.ok, .int .i64 x.p0, .int .i64 x.p1, .int .i64 x.p2, .int .i64 x.l0, .int .i64 x.l1, .int .i64 x.l2, .slice A n c, .int .i64 x.prn, .int .i64 x.lag, .int .i64 x.power, .string x.text] := Blk.below (Blk.new_at (w := w) rfl) hb1 (by simp)
  have HB1 := Lib.hid (one_alloc hb1 : Below w.heap.size w w1)
  obtain ⟨k0, k1, k2, k3, k4, k5, k6, k7, k8, k9, k10, k11, k12, k13⟩ := Blk.cells14 hX1
  have HX1 := Lib.hid hX1
  clear hX1 hb1 HC HN0
  go_wp2_with fail
  go_region_held3 (fun w' => (Below w.heap.size w w' ∧ Blk w' w.heap.size 28 #[.int .i64 1, .int .i64 x.time, .bool x.ok, .int .i64 x.p0, .int .i64 x.p1, .int .i64 x.p2, .int .i64 x.l0, .int .i64 x.l1, .int .i64 x.l2, .slice A n c, .int .i64 x.prn, .int .i64 x.lag, .int .i64 x.power, .string x.text]) ∧ w'.cell? ⟨w.heap.size, 1, none⟩ = some (.int .i64 x.time) ∧ w'.cell? ⟨w.heap.size, 2, none⟩ = some (.bool x.ok)) (first | exact snS1 ⟨Below.drew HB1.out, Blk.drew HX1.out⟩ | assumption | exact snS1 (keepX (by assumption) (by assumption)))
    (first
      | (go_at_call 42; refine (HONE.out _).mono ?_; rintro en w4' ⟨rfl, rfl⟩)
      | (go_at_call 41; refine (HD.out _ (by simp) _).mono ?_; rintro en w5 ⟨rfl, hb5⟩; have HS5 := Lib.hid (keepX hb5 (by assumption))))
  clear HB1 HX1 k0 k1 k2 k3 k4 k5 k6 k7 k8 k9 k10 k11 k12 k13 S1 S2 S3 HD HONE
  go_wp2_with fail
  go_loopw [5, 6] (fun s i wr => ∃ (k : Nat) (b : ByteArray), k ≤ 3 ∧ i = .int .i64 k ∧ s = .string b ∧ b.size ≤ 47 + 22 * k ∧ Hid (joinB (F0 ++ (List.range k).map fun j => itoaB (Plain.pos x j)) = b) ∧ Below w.heap.size w wr ∧ Blk wr w.heap.size 28 #[.int .i64 1, .int .i64 x.time, .bool x.ok, .int .i64 x.p0, .int .i64 x.p1, .int .i64 x.p2, .int .i64 x.l0, .int .i64 x.l1, .int .i64 x.l2, .slice A n c, .int .i64 x.prn, .int .i64 x.lag, .int .i64 x.power, .string x.text]) (fun _ i _ => 3 - (intOf i).toNat)
  case atStart => exact ⟨0, _, by omega, rfl, rfl, (by have := HZ3.out; omega), Lib.hid (by rw [List.range_zero, List.map_nil, List.append_nil]; exact HJ0.out), HS5.out.1, HS5.out.2⟩
  case round =>
    obtain ⟨k, b, hk, rfl, rfl, hbz, HJ, hB, hX⟩ := hrel
    have HBk := Lib.hid hB
    have HXk := Lib.hid hX
    clear hB hX HS5
    by_cases hlt : k < 3
    · obtain ⟨cp, cl⟩ := posCell HXk.out hlt
      have HDk := Lib.hid (HDP.out k hlt)
      have hzk := HZP.out k hlt
      have hnext : joinB (F0 ++ (List.range (k + 1)).map fun j => itoaB (Plain.pos x j)) = (b ++ (⟨#[44]⟩ : ByteArray)) ++ itoaB (Plain.pos x k) := by
        rw [List.range_succ, List.map_append, ← List.append_assoc]
        show joinB (_ ++ [itoaB (Plain.pos x k)]) = _
        rw [joinB_snoc _ _ (by have := HNE.out; simp [this]), HJ.out]
      obtain ⟨E1, hE1⟩ : ∃ C, b ++ (⟨#[44]⟩ : ByteArray) = C := ⟨_, rfl⟩
      obtain ⟨E2, hE2⟩ : ∃ C, E1 ++ itoaB (Plain.pos x k) = C := ⟨_, rfl⟩
      rw [hE1, hE2] at hnext
      have HNX := Lib.hid hnext
      have y1 : E1.size = b.size + 1 := by rw [← hE1, ByteArray.size_append]; rfl
      have HY2 := Lib.hid (show E2.size ≤ 47 + 22 * (k + 1) by rw [← hE2, ByteArray.size_append]; omega)
      have R1 : ∀ W, (Op.stringOp .add b (⟨#[44]⟩ : ByteArray)).run Tryz.prog W = .ok (.string E1) W := fun W => by rw [← hE1]; exact run_string_add_sum W _ _ (by show b.size + 1 ≤ _; omega)
      have R2 : ∀ W, (Op.stringOp .add E1 (itoaB (Plain.pos x k))).run Tryz.prog W = .ok (.string E2) W := fun W => by rw [← hE2]; exact run_string_add_sum W _ _ (by omega)
      clear hnext hE1 hE2 y1 hzk hbz HJ 
      generalize Plain.pos x k = pk at *
      go_wp2_with fail
      refine (HDk.out _).mono ?_
      rintro en w5 ⟨rfl, hb5⟩
      have HB5 := Lib.hid (HBk.out.trans (hb5.mono HBk.out.size))
      have HX5 := Lib.hid (HXk.out.below hb5 HXk.out.lt)
      clear hb5 HBk HXk cp cl
      go_wp2_with fail
      go_roundw
      case rel => exact ⟨k + 1, E2, by omega, by go_num, rfl, HY2.out, HNX, HB5.out, HX5.out⟩
      case measure => simp [intOf]; omega
    · have HK3 := Lib.hid (show k = 3 by omega)
      have hlt3 : ¬ (k : Int) < 3 := by omega
      have HZ4 := Lib.hid (show b.size ≤ 113 by have := HK3.out; omega)
      have HJ1 := Lib.hid (show joinB (F0 ++ [x.p0, x.p1, x.p2].map itoaB) = b by have := HJ.out; rw [HK3.out] at this; exact this)
      have HS5 := Lib.hid (And.intro HBk.out HXk.out)
      clear hbz HJ HBk HXk hk hlt HZ3 HJ0 HDP HZP HK3
      obtain ⟨F1, hF1⟩ : ∃ F, F0 ++ [x.p0, x.p1, x.p2].map itoaB = F := ⟨_, rfl⟩
      rw [hF1] at HJ1
      have HNE1 := Lib.hid (show F1 ≠ [] by rw [← hF1]; simp)
      have HFT3 := Lib.hid (show fieldsT x = F1 ++ [x.l0, x.l1, x.l2].map itoaB ++ [itoaB (x.prns.length : Int)] ++ x.prns.map itoaB by rw [HFT2.out, hF1])
      clear HNE HFT2 hF1
      have HNE := HNE1
      clear HNE1
      go_wp2_with fail
      go_loopw [5, 7] (fun s i wr => ∃ (k : Nat) (b : ByteArray), k ≤ 3 ∧ i = .int .i64 k ∧ s = .string b ∧ b.size ≤ 113 + 22 * k ∧ Hid (joinB (F1 ++ (List.range k).map fun j => itoaB (Plain.lev x j)) = b) ∧ Below w.heap.size w wr ∧ Blk wr w.heap.size 28 #[.int .i64 1, .int .i64 x.time, .bool x.ok, .int .i64 x.p0, .int .i64 x.p1, .int .i64 x.p2, .int .i64 x.l0, .int .i64 x.l1, .int .i64 x.l2, .slice A n c, .int .i64 x.prn, .int .i64 x.lag, .int .i64 x.power, .string x.text]) (fun _ i _ => 3 - (intOf i).toNat)
      case atStart => exact ⟨0, _, by omega, rfl, rfl, (by have := HZ4.out; omega), Lib.hid (by rw [List.range_zero, List.map_nil, List.append_nil]; exact HJ1.out), HS5.out.1, HS5.out.2⟩
      case round =>
        obtain ⟨k, b, hk, rfl, rfl, hbz, HJ, hB, hX⟩ := hrel
        have HBk := Lib.hid hB
        have HXk := Lib.hid hX
        clear hB hX HS5
        by_cases hlt : k < 3
        · obtain ⟨cp, cl⟩ := posCell HXk.out hlt
          have HDk := Lib.hid (HDL.out k hlt)
          have hzk := HZL.out k hlt
          have hnext : joinB (F1 ++ (List.range (k + 1)).map fun j => itoaB (Plain.lev x j)) = (b ++ (⟨#[44]⟩ : ByteArray)) ++ itoaB (Plain.lev x k) := by
            rw [List.range_succ, List.map_append, ← List.append_assoc]
            show joinB (_ ++ [itoaB (Plain.lev x k)]) = _
            rw [joinB_snoc _ _ (by have := HNE.out; simp [this]), HJ.out]
          obtain ⟨E1, hE1⟩ : ∃ C, b ++ (⟨#[44]⟩ : ByteArray) = C := ⟨_, rfl⟩
          obtain ⟨E2, hE2⟩ : ∃ C, E1 ++ itoaB (Plain.lev x k) = C := ⟨_, rfl⟩
          rw [hE1, hE2] at hnext
          have HNX := Lib.hid hnext
          have y1 : E1.size = b.size + 1 := by rw [← hE1, ByteArray.size_append]; rfl
          have HY2 := Lib.hid (show E2.size ≤ 113 + 22 * (k + 1) by rw [← hE2, ByteArray.size_append]; omega)
          have R1 : ∀ W, (Op.stringOp .add b (⟨#[44]⟩ : ByteArray)).run Tryz.prog W = .ok (.string E1) W := fun W => by rw [← hE1]; exact run_string_add_sum W _ _ (by show b.size + 1 ≤ _; omega)
          have R2 : ∀ W, (Op.stringOp .add E1 (itoaB (Plain.lev x k))).run Tryz.prog W = .ok (.string E2) W := fun W => by rw [← hE2]; exact run_string_add_sum W _ _ (by omega)
          clear hnext hE1 hE2 y1 hzk hbz HJ 
          generalize Plain.lev x k = pk at *
          go_wp2_with fail
          refine (HDk.out _).mono ?_
          rintro en w5 ⟨rfl, hb5⟩
          have HB5 := Lib.hid (HBk.out.trans (hb5.mono HBk.out.size))
          have HX5 := Lib.hid (HXk.out.below hb5 HXk.out.lt)
          clear hb5 HBk HXk cp cl
          go_wp2_with fail
          go_roundw
          case rel => exact ⟨k + 1, E2, by omega, by go_num, rfl, HY2.out, HNX, HB5.out, HX5.out⟩
          case measure => simp [intOf]; omega
        · have HK3 := Lib.hid (show k = 3 by omega)
          have hlt3 : ¬ (k : Int) < 3 := by omega
          have HJ2 := Lib.hid (show joinB (F1 ++ [x.l0, x.l1, x.l2].map itoaB) = b by have := HJ.out; rw [HK3.out] at this; exact this)
          have hbz3 : b.size ≤ 180 := by have := HK3.out; omega
          have hzn := HZN.out
          have hnext : joinB ((F1 ++ [x.l0, x.l1, x.l2].map itoaB) ++ [itoaB (n : Int)]) = (b ++ (⟨#[44]⟩ : ByteArray)) ++ itoaB (n : Int) := by
            rw [joinB_snoc _ _ (by simp), HJ2.out]
          obtain ⟨E1, hE1⟩ : ∃ C, b ++ (⟨#[44]⟩ : ByteArray) = C := ⟨_, rfl⟩
          obtain ⟨E2, hE2⟩ : ∃ C, E1 ++ itoaB (n : Int) = C := ⟨_, rfl⟩
          rw [hE1, hE2] at hnext
          obtain ⟨F2, hF2⟩ : ∃ F, (F1 ++ [x.l0, x.l1, x.l2].map itoaB) ++ [itoaB (n : Int)] = F := ⟨_, rfl⟩
          rw [hF2] at hnext
          have HJ3 := Lib.hid hnext
          have HNE2 := Lib.hid (show F2 ≠ [] by rw [← hF2]; simp)
          have HFT4 := Lib.hid (show fieldsT x = F2 ++ x.prns.map itoaB by rw [HFT3.out, HLN.out, hF2])
          have y1 : E1.size = b.size + 1 := by rw [← hE1, ByteArray.size_append]; rfl
          have HY2 := Lib.hid (show E2.size ≤ 210 by rw [← hE2, ByteArray.size_append]; omega)
          have R1 : ∀ W, (Op.stringOp .add b (⟨#[44]⟩ : ByteArray)).run Tryz.prog W = .ok (.string E1) W := fun W => by rw [← hE1]; exact run_string_add_sum W _ _ (by show b.size + 1 ≤ _; omega)
          have R2 : ∀ W, (Op.stringOp .add E1 (itoaB (n : Int))).run Tryz.prog W = .ok (.string E2) W := fun W => by rw [← hE2]; exact run_string_add_sum W _ _ (by omega)
          have k9 := HXk.out.cell 9
          clear hnext hE1 hE2 hF2 y1 hzn hbz hbz3 HK3 HJ HJ2 hk hlt HNE HFT3 HZ4 HJ1 HDL HZL HZN
          go_wp2_with fail
          refine (HDN.out _).mono ?_
          rintro en w5 ⟨rfl, hb5⟩
          have HS5 := Lib.hid (And.intro (HBk.out.trans (hb5.mono HBk.out.size)) (HXk.out.below hb5 HXk.out.lt))
          clear hb5 HBk HXk k9 HDN
          go_wp2_with fail
          clear R1 R2
          go_loopw [5, 8] (fun s i wr => ∃ (k : Nat) (b : ByteArray), k ≤ n ∧ i = .int .i64 k ∧ s = .string b ∧ b.size ≤ 210 + 22 * k ∧ Hid (joinB (F2 ++ (x.prns.take k).map itoaB) = b) ∧ Below w.heap.size w wr ∧ Blk wr w.heap.size 28 #[.int .i64 1, .int .i64 x.time, .bool x.ok, .int .i64 x.p0, .int .i64 x.p1, .int .i64 x.p2, .int .i64 x.l0, .int .i64 x.l1, .int .i64 x.l2, .slice A n c, .int .i64 x.prn, .int .i64 x.lag, .int .i64 x.power, .string x.text]) (fun _ i _ => n - (intOf i).toNat)
          case atStart => exact ⟨0, _, Nat.zero_le _, rfl, rfl, HY2.out, Lib.hid (by rw [List.take_zero, List.map_nil, List.append_nil]; exact HJ3.out), HS5.out.1, HS5.out.2⟩
          case round =>
            obtain ⟨k, b, hk, rfl, rfl, hbz, HJ, hB, hX⟩ := hrel
            have HBk := Lib.hid hB
            have HXk := Lib.hid hX
            have k9 := hX.cell 9
            clear hB hX HS5
            by_cases hlt : k < n
            · have hkl : k < x.prns.length := by rw [HLN.out]; exact hlt
              obtain ⟨ad, hA, hcw⟩ := (HN.out.below HBk.out (Nat.le_refl _)) k hkl
              have HDk := Lib.hid (HDR.out k hkl)
              have hzk := HZR.out k hkl
              have hnext : joinB (F2 ++ (x.prns.take (k + 1)).map itoaB) = (b ++ (⟨#[44]⟩ : ByteArray)) ++ itoaB x.prns[k] := by
                rw [List.take_add_one, List.getElem?_eq_getElem hkl, List.map_append, ← List.append_assoc]
                show joinB (_ ++ [itoaB x.prns[k]]) = _
                rw [joinB_snoc _ _ (by have := HNE2.out; simp [this]), HJ.out]
              obtain ⟨E1, hE1⟩ : ∃ C, b ++ (⟨#[44]⟩ : ByteArray) = C := ⟨_, rfl⟩
              obtain ⟨E2, hE2⟩ : ∃ C, E1 ++ itoaB x.prns[k] = C := ⟨_, rfl⟩
              rw [hE1, hE2] at hnext
              have HNX := Lib.hid hnext
              have y1 : E1.size = b.size + 1 := by rw [← hE1, ByteArray.size_append]; rfl
              have HY3 := Lib.hid (show E2.size ≤ 210 + 22 * (k + 1) by rw [← hE2, ByteArray.size_append]; omega)
              have R1 : ∀ W, (Op.stringOp .add b (⟨#[44]⟩ : ByteArray)).run Tryz.prog W = .ok (.string E1) W := fun W => by rw [← hE1]; exact run_string_add_sum W _ _ (by show b.size + 1 ≤ _; omega)
              have R2 : ∀ W, (Op.stringOp .add E1 (itoaB x.prns[k])).run Tryz.prog W = .ok (.string E2) W := fun W => by rw [← hE2]; exact run_string_add_sum W _ _ (by omega)
              subst hA
              clear hnext hE1 hE2 y1 hzk hbz HJ
              generalize x.prns[k] = pk at *
              clear hkl
              go_wp2_with fail
              refine (HDk.out _).mono ?_
              rintro en w5 ⟨rfl, hb5⟩
              have HB5 := Lib.hid (HBk.out.trans (hb5.mono HBk.out.size))
              have HX5 := Lib.hid (HXk.out.below hb5 HXk.out.lt)
              clear hb5 HBk HXk hcw k9
              go_wp2_with fail
              go_roundw
              case rel => exact ⟨k + 1, E2, by omega, by go_num, rfl, HY3.out, HNX, HB5.out, HX5.out⟩
              case measure => simp [intOf]; omega
            · obtain rfl : k = n := by omega
              have HL0 := Lib.hid (show joinB (fieldsT x) = b by
                have := HJ.out
                rw [List.take_of_length_le (by rw [HLN.out]; exact Nat.le_refl _)] at this
                rw [HFT4.out]
                exact this)
              have HS5 := Lib.hid (And.intro HBk.out HXk.out)
              have HS80 := Lib.hid (show b.size ≤ 562 by omega)
              have HL := HL0
              obtain ⟨m, hm⟩ : ∃ m, Plain.sumN b.data.toList = m := ⟨_, rfl⟩
              have hm256 := Plain.sumN_lt b.data.toList
              have HSum := Lib.hid (fun W => rsum_any b W (by have := HS80.out; omega))
              rw [hm] at hm256 HSum
              obtain ⟨q, hq⟩ : ∃ q, m / 16 = q := ⟨_, rfl⟩
              obtain ⟨r, hr'⟩ : ∃ r, m % 16 = r := ⟨_, rfl⟩
              have HW := Lib.hid (show wrapB b = (((⟨#[36]⟩ : ByteArray) ++ b) ++ ⟨#[42]⟩) ++ hexB.extract q (q + 1) ++ hexB.extract r (r + 1) by unfold wrapB; rw [hm, hq, hr'])
              have hq15 : q ≤ 15 := by omega
              have hr15 : r ≤ 15 := by omega
              have HTQ := Lib.hid (show (m : Int).tdiv 16 = (q : Int) by rw [← hq]; rfl)
              have HTR := Lib.hid (show (m : Int).tmod 16 = (r : Int) by rw [← hr']; rfl)
              clear hm hq hr'
              obtain ⟨D1, hD1⟩ : ∃ C, (⟨#[36]⟩ : ByteArray) ++ b = C := ⟨_, rfl⟩
              obtain ⟨D2, hD2⟩ : ∃ C, D1 ++ (⟨#[42]⟩ : ByteArray) = C := ⟨_, rfl⟩
              obtain ⟨D3, hD3⟩ : ∃ C, D2 ++ (⟨#[48, 49, 50, 51, 52, 53, 54, 55, 56, 57, 65, 66, 67, 68, 69, 70]⟩ : ByteArray).extract q (q + 1) = C := ⟨_, rfl⟩
              obtain ⟨D4, hD4⟩ : ∃ C, D3 ++ (⟨#[48, 49, 50, 51, 52, 53, 54, 55, 56, 57, 65, 66, 67, 68, 69, 70]⟩ : ByteArray).extract r (r + 1) = C := ⟨_, rfl⟩
              have y0 := HS80.out
              have y1 : D1.size = b.size + 1 := by rw [← hD1, ByteArray.size_append]; show 1 + b.size = _; omega
              have y2 : D2.size = b.size + 2 := by rw [← hD2, ByteArray.size_append, y1]; rfl
              have x1 : ((⟨#[48, 49, 50, 51, 52, 53, 54, 55, 56, 57, 65, 66, 67, 68, 69, 70]⟩ : ByteArray).extract q (q + 1)).size ≤ 16 := by rw [ByteArray.size_extract]; have : (⟨#[48, 49, 50, 51, 52, 53, 54, 55, 56, 57, 65, 66, 67, 68, 69, 70]⟩ : ByteArray).size = 16 := rfl; omega
              have x2 : ((⟨#[48, 49, 50, 51, 52, 53, 54, 55, 56, 57, 65, 66, 67, 68, 69, 70]⟩ : ByteArray).extract r (r + 1)).size ≤ 16 := by rw [ByteArray.size_extract]; have : (⟨#[48, 49, 50, 51, 52, 53, 54, 55, 56, 57, 65, 66, 67, 68, 69, 70]⟩ : ByteArray).size = 16 := rfl; omega
              have y3 : D3.size ≤ b.size + 18 := by rw [← hD3, ByteArray.size_append, y2]; omega
              have T1 : ∀ W, (Op.stringOp .add (⟨#[36]⟩ : ByteArray) b).run Tryz.prog W = .ok (.string D1) W := fun W => by rw [← hD1]; exact run_string_add_sum W _ _ (by show 1 + b.size ≤ _; omega)
              have T2 : ∀ W, (Op.stringOp .add D1 (⟨#[42]⟩ : ByteArray)).run Tryz.prog W = .ok (.string D2) W := fun W => by rw [← hD2]; exact run_string_add_sum W _ _ (by rw [y1]; show b.size + 1 + 1 ≤ _; omega)
              have T3 : ∀ W, (Op.stringOp .add D2 ((⟨#[48, 49, 50, 51, 52, 53, 54, 55, 56, 57, 65, 66, 67, 68, 69, 70]⟩ : ByteArray).extract q (q + 1))).run Tryz.prog W = .ok (.string D3) W := fun W => by rw [← hD3]; exact run_string_add_sum W _ _ (by rw [y2]; omega)
              have T4 : ∀ W, (Op.stringOp .add D3 ((⟨#[48, 49, 50, 51, 52, 53, 54, 55, 56, 57, 65, 66, 67, 68, 69, 70]⟩ : ByteArray).extract r (r + 1))).run Tryz.prog W = .ok (.string D4) W := fun W => by rw [← hD4]; exact run_string_add_sum W _ _ (by omega)
              have HDD := Lib.hid (show lineB x = D4 by unfold lineB bodyT; rw [HL.out, HW.out, hD1, hD2]; show D2 ++ (⟨#[48, 49, 50, 51, 52, 53, 54, 55, 56, 57, 65, 66, 67, 68, 69, 70]⟩ : ByteArray).extract q (q + 1) ++ (⟨#[48, 49, 50, 51, 52, 53, 54, 55, 56, 57, 65, 66, 67, 68, 69, 70]⟩ : ByteArray).extract r (r + 1) = _; rw [hD3, hD4])
              have u1 : ((q : Int) + 1).toNat = q + 1 := by omega
              have u2 : ((r : Int) + 1).toNat = r + 1 := by omega
              have X1 : ∀ W, (Instr.slice 9 (.string (⟨#[48, 49, 50, 51, 52, 53, 54, 55, 56, 57, 65, 66, 67, 68, 69, 70]⟩ : ByteArray)) (some (.int .i64 (q : Int))) (some (.int .i64 ((q : Int) + 1))) none).run Tryz.prog W = .ok (.string ((⟨#[48, 49, 50, 51, 52, 53, 54, 55, 56, 57, 65, 66, 67, 68, 69, 70]⟩ : ByteArray).extract q (q + 1))) W := fun W => by
                have := run_slice_string (w := W) 9 (⟨#[48, 49, 50, 51, 52, 53, 54, 55, 56, 57, 65, 66, 67, 68, 69, 70]⟩ : ByteArray) .i64 .i64 (q : Int) ((q : Int) + 1) Tryz.underlying9 (by omega) (by omega) (by show _ ≤ ((16 : Nat) : Int); omega)
                rw [u1, Int.toNat_natCast] at this
                exact this
              have X2 : ∀ W, (Instr.slice 9 (.string (⟨#[48, 49, 50, 51, 52, 53, 54, 55, 56, 57, 65, 66, 67, 68, 69, 70]⟩ : ByteArray)) (some (.int .i64 (r : Int))) (some (.int .i64 ((r : Int) + 1))) none).run Tryz.prog W = .ok (.string ((⟨#[48, 49, 50, 51, 52, 53, 54, 55, 56, 57, 65, 66, 67, 68, 69, 70]⟩ : ByteArray).extract r (r + 1))) W := fun W => by
                have := run_slice_string (w := W) 9 (⟨#[48, 49, 50, 51, 52, 53, 54, 55, 56, 57, 65, 66, 67, 68, 69, 70]⟩ : ByteArray) .i64 .i64 (r : Int) ((r : Int) + 1) Tryz.underlying9 (by omega) (by omega) (by show _ ≤ ((16 : Nat) : Int); omega)
                rw [u2, Int.toNat_natCast] at this
                exact this
              clear hD1 hD2 hD3 hD4 y0 y1 y2 y3 x1 x2 HL HW HS80
              clear hbz HL0 HJ HBk HXk hk HNE2 HFT4 HJ3 HY2 HDR HZR HLN HN
              have HB5 := Lib.hid HS5.out.1
              go_wp2_with fail
              refine (HSum.out _).mono ?_
              rintro en wb ⟨rfl, rfl⟩
              have e1 := HTQ.out
              have e2 := HTR.out
              have v1 : IntKind.i64.wrap ((q : Int) + 1) = (q : Int) + 1 := IntWalk.i64_in _ (by omega)
              have v2 : IntKind.i64.wrap ((r : Int) + 1) = (r : Int) + 1 := IntWalk.i64_in _ (by omega)
              have t1 : ((q : Int) + 1).toNat = q + 1 := by omega
              have t2 : ((r : Int) + 1).toNat = r + 1 := by omega
              have b1 : (q : Int) + 1 ≤ 16 := by omega
              have b2 : (r : Int) + 1 ≤ 16 := by omega
              go_wp2_with fail
              go_quiet (fail)
              go_wp2_with fail
              go_ret2
              exact ⟨by rw [HDD.out]; rfl, below_drewN HB5.out _⟩
end Go.Proofs.YteeekdffbcbamaaGreatDoor
