/-
  WALKS: the reference's Line of a sentence that is right: a channel.
-/
import Derived.Test.YteeekdffbcbamaaGreatDoorRLineP
namespace Go.Proofs.YteeekdffbcbamaaGreatDoor
open Go.RowKit
set_option maxRecDepth 100000 in
set_option maxHeartbeats 8000000 in
theorem rline_chan (x : Plain.Sn) (A : Option Addr) (c : Nat) (w : World) (hN : PrL w A x.prns) (hs : x.text.size ≤ 1000000) (hn : x.prns.length ≤ 9223372036854775807) (h0 : Plain.checkE x = 0) (hk : x.kind = 2) :
    Calls Tryz.prog 20 #[.agg (snCells x (.slice A x.prns.length c))] w (LinePost w (lineB x, 0)) := by
  have HC := Lib.hid (fun W hN => rcheck_any x A c W hN hs hn)
  rw [h0] at HC
  have HN0 := Lib.hid (hN.below ((Below.refl _ _).alloc (Nat.le_refl w.heap.size) (.cells (snCells x (.slice A x.prns.length c)) 28)) (Nat.le_refl _))
  have ht := Plain.zero_time h0
  obtain ⟨ov, hov⟩ : ∃ z, oneI x.ok = z := ⟨_, rfl⟩
  have ho := oneI_range x.ok
  rw [hov] at ho
  have hfT : fieldsT x = [(⟨#[83, 65, 84]⟩ : ByteArray)] ++ [x.time, ov, x.prn, x.lag, x.power].map itoaB := by
    unfold fieldsT
    rw [if_neg (by omega), if_pos (by omega), hov]
  obtain ⟨_, hp1, hp2, hp3⟩ := Plain.zero_2 h0 hk
  have hr : ∀ z ∈ [x.time, ov, x.prn, x.lag, x.power], -9223372036854775807 ≤ z ∧ z ≤ 9223372036854775807 := fun z hz => by
    simp at hz
    omega
  have HD := Lib.hid (fun z (hz : z ∈ [x.time, ov, x.prn, x.lag, x.power]) W => decimal_any z W (hr z hz).1 (hr z hz).2)
  have HDS := Lib.hid (fun z (hz : z ∈ [x.time, ov, x.prn, x.lag, x.power]) => itoaB_size z (by have := hr z hz; omega) (hr z hz).2)
  have HONE := Lib.hid (fun W => rbit_any x.ok W)
  rw [hov] at HONE
  have HFT := Lib.hid hfT; clear hfT
  unfold snCells at *
  rw [hk] at HC HN0 ⊢
  obtain ⟨n, hnl⟩ : ∃ n, x.prns.length = n := ⟨_, rfl⟩
  rw [hnl] at HC HN0 ⊢
  have z0 : (⟨#[83, 65, 84, 44]⟩ : ByteArray).size ≤ 4 := by decide
  obtain ⟨C1, hC1⟩ : ∃ C, (⟨#[83, 65, 84, 44]⟩ : ByteArray) ++ itoaB x.time = C := ⟨_, rfl⟩
  have S1 : ∀ W, (Op.stringOp .add (⟨#[83, 65, 84, 44]⟩ : ByteArray) (itoaB x.time)).run Tryz.prog W = .ok (.string C1) W := fun W => by rw [← hC1]; exact run_string_add_sum W _ _ (by have := HDS.out x.time (by simp); omega)
  have z1 : C1.size ≤ 25 := by rw [← hC1, ByteArray.size_append]; have := HDS.out x.time (by simp); omega
  obtain ⟨C2, hC2⟩ : ∃ C, C1 ++ (⟨#[44]⟩ : ByteArray) = C := ⟨_, rfl⟩
  have S2 : ∀ W, (Op.stringOp .add C1 (⟨#[44]⟩ : ByteArray)).run Tryz.prog W = .ok (.string C2) W := fun W => by rw [← hC2]; exact run_string_add_sum W _ _ (by have : (⟨#[44]⟩ : ByteArray).size = 1 := rfl; omega)
  have z2 : C2.size ≤ 26 := by rw [← hC2, ByteArray.size_append]; have : (⟨#[44]⟩ : ByteArray).size = 1 := rfl; omega
  obtain ⟨C3, hC3⟩ : ∃ C, C2 ++ itoaB ov = C := ⟨_, rfl⟩
  have S3 : ∀ W, (Op.stringOp .add C2 (itoaB ov)).run Tryz.prog W = .ok (.string C3) W := fun W => by rw [← hC3]; exact run_string_add_sum W _ _ (by have := HDS.out ov (by simp); omega)
  have z3 : C3.size ≤ 47 := by rw [← hC3, ByteArray.size_append]; have := HDS.out ov (by simp); omega
  obtain ⟨C4, hC4⟩ : ∃ C, C3 ++ (⟨#[44]⟩ : ByteArray) = C := ⟨_, rfl⟩
  have S4 : ∀ W, (Op.stringOp .add C3 (⟨#[44]⟩ : ByteArray)).run Tryz.prog W = .ok (.string C4) W := fun W => by rw [← hC4]; exact run_string_add_sum W _ _ (by have : (⟨#[44]⟩ : ByteArray).size = 1 := rfl; omega)
  have z4 : C4.size ≤ 48 := by rw [← hC4, ByteArray.size_append]; have : (⟨#[44]⟩ : ByteArray).size = 1 := rfl; omega
  obtain ⟨C5, hC5⟩ : ∃ C, C4 ++ itoaB x.prn = C := ⟨_, rfl⟩
  have S5 : ∀ W, (Op.stringOp .add C4 (itoaB x.prn)).run Tryz.prog W = .ok (.string C5) W := fun W => by rw [← hC5]; exact run_string_add_sum W _ _ (by have := HDS.out x.prn (by simp); omega)
  have z5 : C5.size ≤ 69 := by rw [← hC5, ByteArray.size_append]; have := HDS.out x.prn (by simp); omega
  obtain ⟨C6, hC6⟩ : ∃ C, C5 ++ (⟨#[44]⟩ : ByteArray) = C := ⟨_, rfl⟩
  have S6 : ∀ W, (Op.stringOp .add C5 (⟨#[44]⟩ : ByteArray)).run Tryz.prog W = .ok (.string C6) W := fun W => by rw [← hC6]; exact run_string_add_sum W _ _ (by have : (⟨#[44]⟩ : ByteArray).size = 1 := rfl; omega)
  have z6 : C6.size ≤ 70 := by rw [← hC6, ByteArray.size_append]; have : (⟨#[44]⟩ : ByteArray).size = 1 := rfl; omega
  obtain ⟨C7, hC7⟩ : ∃ C, C6 ++ itoaB x.lag = C := ⟨_, rfl⟩
  have S7 : ∀ W, (Op.stringOp .add C6 (itoaB x.lag)).run Tryz.prog W = .ok (.string C7) W := fun W => by rw [← hC7]; exact run_string_add_sum W _ _ (by have := HDS.out x.lag (by simp); omega)
  have z7 : C7.size ≤ 91 := by rw [← hC7, ByteArray.size_append]; have := HDS.out x.lag (by simp); omega
  obtain ⟨C8, hC8⟩ : ∃ C, C7 ++ (⟨#[44]⟩ : ByteArray) = C := ⟨_, rfl⟩
  have S8 : ∀ W, (Op.stringOp .add C7 (⟨#[44]⟩ : ByteArray)).run Tryz.prog W = .ok (.string C8) W := fun W => by rw [← hC8]; exact run_string_add_sum W _ _ (by have : (⟨#[44]⟩ : ByteArray).size = 1 := rfl; omega)
  have z8 : C8.size ≤ 92 := by rw [← hC8, ByteArray.size_append]; have : (⟨#[44]⟩ : ByteArray).size = 1 := rfl; omega
  obtain ⟨C9, hC9⟩ : ∃ C, C8 ++ itoaB x.power = C := ⟨_, rfl⟩
  have S9 : ∀ W, (Op.stringOp .add C8 (itoaB x.power)).run Tryz.prog W = .ok (.string C9) W := fun W => by rw [← hC9]; exact run_string_add_sum W _ _ (by have := HDS.out x.power (by simp); omega)
  have z9 : C9.size ≤ 113 := by rw [← hC9, ByteArray.size_append]; have := HDS.out x.power (by simp); omega
  have HS80 := Lib.hid (show C9.size ≤ 113 by omega)
  have HL := Lib.hid (show joinB (fieldsT x) = C9 by
    rw [HFT.out]
    show joinB (((([(⟨#[83, 65, 84]⟩ : ByteArray)] ++ [itoaB x.time]) ++ [itoaB ov]) ++ [itoaB x.prn]) ++ [itoaB x.lag] ++ [itoaB x.power]) = _
    rw [joinB_snoc _ _ (by simp), joinB_snoc _ _ (by simp), joinB_snoc _ _ (by simp), joinB_snoc _ _ (by simp), joinB_snoc _ _ (by simp), joinB_one, ← hC9, ← hC8, ← hC7, ← hC6, ← hC5, ← hC4, ← hC3, ← hC2, ← hC1]
    rfl)
  obtain ⟨m, hm⟩ : ∃ m, Plain.sumN C9.data.toList = m := ⟨_, rfl⟩
  have hm256 := Plain.sumN_lt C9.data.toList
  have HSum := Lib.hid (fun W => rsum_any C9 W (by have := HS80.out; omega))
  rw [hm] at hm256 HSum
  obtain ⟨q, hq⟩ : ∃ q, m / 16 = q := ⟨_, rfl⟩
  obtain ⟨r, hr'⟩ : ∃ r, m % 16 = r := ⟨_, rfl⟩
  have HW := Lib.hid (show wrapB C9 = (((⟨#[36]⟩ : ByteArray) ++ C9) ++ ⟨#[42]⟩) ++ hexB.extract q (q + 1) ++ hexB.extract r (r + 1) by unfold wrapB; rw [hm, hq, hr'])
  have hq15 : q ≤ 15 := by omega
  have hr15 : r ≤ 15 := by omega
  have HTQ := Lib.hid (show (m : Int).tdiv 16 = (q : Int) by rw [← hq]; rfl)
  have HTR := Lib.hid (show (m : Int).tmod 16 = (r : Int) by rw [← hr']; rfl)
  clear hm hq hr'
  obtain ⟨D1, hD1⟩ : ∃ C, (⟨#[36]⟩ : ByteArray) ++ C9 = C := ⟨_, rfl⟩
  obtain ⟨D2, hD2⟩ : ∃ C, D1 ++ (⟨#[42]⟩ : ByteArray) = C := ⟨_, rfl⟩
  obtain ⟨D3, hD3⟩ : ∃ C, D2 ++ (⟨#[48, 49, 50, 51, 52, 53, 54, 55, 56, 57, 65, 66, 67, 68, 69, 70]⟩ : ByteArray).extract q (q + 1) = C := ⟨_, rfl⟩
  obtain ⟨D4, hD4⟩ : ∃ C, D3 ++ (⟨#[48, 49, 50, 51, 52, 53, 54, 55, 56, 57, 65, 66, 67, 68, 69, 70]⟩ : ByteArray).extract r (r + 1) = C := ⟨_, rfl⟩
  have y0 := HS80.out
  have y1 : D1.size = C9.size + 1 := by rw [← hD1, ByteArray.size_append]; show 1 + C9.size = _; omega
  have y2 : D2.size = C9.size + 2 := by rw [← hD2, ByteArray.size_append, y1]; rfl
  have x1 : ((⟨#[48, 49, 50, 51, 52, 53, 54, 55, 56, 57, 65, 66, 67, 68, 69, 70]⟩ : ByteArray).extract q (q + 1)).size ≤ 16 := by rw [ByteArray.size_extract]; have : (⟨#[48, 49, 50, 51, 52, 53, 54, 55, 56, 57, 65, 66, 67, 68, 69, 70]⟩ : ByteArray).size = 16 := rfl; omega
  have x2 : ((⟨#[48, 49, 50, 51, 52, 53, 54, 55, 56, 57, 65, 66, 67, 68, 69, 70]⟩ : ByteArray).extract r (r + 1)).size ≤ 16 := by rw [ByteArray.size_extract]; have : (⟨#[48, 49, 50, 51, 52, 53, 54, 55, 56, 57, 65, 66, 67, 68, 69, 70]⟩ : ByteArray).size = 16 := rfl; omega
  have y3 : D3.size ≤ C9.size + 18 := by rw [← hD3, ByteArray.size_append, y2]; omega
  have T1 : ∀ W, (Op.stringOp .add (⟨#[36]⟩ : ByteArray) C9).run Tryz.prog W = .ok (.string D1) W := fun W => by rw [← hD1]; exact run_string_add_sum W _ _ (by show 1 + C9.size ≤ _; omega)
  have T2 : ∀ W, (Op.stringOp .add D1 (⟨#[42]⟩ : ByteArray)).run Tryz.prog W = .ok (.string D2) W := fun W => by rw [← hD2]; exact run_string_add_sum W _ _ (by rw [y1]; show C9.size + 1 + 1 ≤ _; omega)
  have T3 : ∀ W, (Op.stringOp .add D2 ((⟨#[48, 49, 50, 51, 52, 53, 54, 55, 56, 57, 65, 66, 67, 68, 69, 70]⟩ : ByteArray).extract q (q + 1))).run Tryz.prog W = .ok (.string D3) W := fun W => by rw [← hD3]; exact run_string_add_sum W _ _ (by rw [y2]; omega)
  have T4 : ∀ W, (Op.stringOp .add D3 ((⟨#[48, 49, 50, 51, 52, 53, 54, 55, 56, 57, 65, 66, 67, 68, 69, 70]⟩ : ByteArray).extract r (r + 1))).run Tryz.prog W = .ok (.string D4) W := fun W => by rw [← hD4]; exact run_string_add_sum W _ _ (by omega)
  have HDD := Lib.hid (show lineB x = D4 by unfold lineB bodyT; rw [HL.out, HW.out, hD1, hD2]; show D2 ++ (⟨#[48, 49, 50, 51, 52, 53, 54, 55, 56, 57, 65, 66, 67, 68, 69, 70]⟩ : ByteArray).extract q (q + 1) ++ (⟨#[48, 49, 50, 51, 52, 53, 54, 55, 56, 57, 65, 66, 67, 68, 69, 70]⟩ : ByteArray).extract r (r + 1) = _; rw [hD3, hD4])
  have u1 : ((q : Int) + 1).toNat = q + 1 := by omega
  have u2 : ((r : Int) + 1).toNat = r + 1 := by omega
  have X1 : ∀ W, (Instr.slice 9 (.string (⟨#[48, 49, 50, 51, 52, 53, 54, 55, 56, 57, 65, 66, 67, 68, 69, 70]⟩ : ByteArray)) (some (.int .i64 (q : Int))) (some (.int .i64 ((q : Int) + 1))) none).run Tryz.prog W = .ok (.string ((⟨#[48, 49, 50, 51, 52, 53, 54, 55, 56, 57, 65, 66, 67, 68, 69, 70]⟩ : ByteArray).extract q (q + 1))) W := fun W => by
    have := run_slice_string (w := W) 9 (⟨#[48, 49, 50, 51, 52, 53, 54, 55, 56, 57, 65, 66, 67, 68, 69, 70]⟩ : ByteArray) .i64 .i64 (q : Int) ((q : Int) + 1) Tryz.underlying9 (by omega) (by omega) (by show _ ≤ ((16 : Nat) : Int); omega)
    rw [u1, Int.toNat_natCast] at this
    exact this
  have X2 : ∀ W, (Instr.slice 9 (.string (⟨#[48, 49, 50, 51, 52, 53, 54, 55, 56, 57, 65, 66, 67, 68, 69, 70]⟩ : ByteArray)) (some (.int .i64 (r : Int))) (some (.int .i64 ((r : Int) + 1))) none).run Tryz.prog W = .ok (.string ((⟨#[48, 49, 50, 51, 52, 53, 54, 55, 56, 57, 65, 66, 67, 68, 69, 70]⟩ : ByteArray).extract r (r + 1))) W := fun W => by
    have := run_slice_string (w := W) 9 (⟨#[48, 49, 50, 51, 52, 53, 54, 55, 56, 57, 65, 66, 67, 68, 69, 70]⟩ : ByteArray) .i64 .i64 (r : Int) ((r : Int) + 1) Tryz.underlying9 (by omega) (by omega) (by show _ ≤ ((16 : Nat) : Int); omega)
    rw [u2, Int.toNat_natCast] at this
    exact this
  clear hD1 hD2 hD3 hD4 y0 y1 y2 y3 x1 x2 HL HW HS80
  clear hC1 hC2 hC3 hC4 hC5 hC6 hC7 hC8 hC9 z0 z1 z2 z3 z4 z5 z6 z7 z8 z9
  clear hp1 hp2 hp3 ht ho hov hr h0 hs hn hN hk hnl
  go_enter Tryz.func20, Tryz.ntmps20
  go_wp2_with fail
  refine (HC.out _ HN0.out).mono ?_
  rintro en w1 ⟨rfl, hb1⟩
  have hX1 : Blk w1 w.heap.size 28 #[.int .i64 2, .int .i64 x.time, .bool x.ok, .int .i64 x.p0, .int .i64 x.p1, .int .i64 x.p2, .int .i64 x.l0, .int .i64 x.l1, .int .i64 x.l2, .slice A n c, .int .i64 x.prn, .int .i64 x.lag, .int .i64 x.power, .string x.text] := Blk.below (Blk.new_at (w := w) rfl) hb1 (by simp)
  have HB1 := Lib.hid (one_alloc hb1 : Below w.heap.size w w1)
  obtain ⟨k0, k1, k2, k3, k4, k5, k6, k7, k8, k9, k10, k11, k12, k13⟩ := Blk.cells14 hX1
  have HX1 := Lib.hid hX1
  clear hX1 hb1 HC HN0
  go_wp2_with fail
  go_region_held3 (fun w' => (Below w.heap.size w w' ∧ Blk w' w.heap.size 28 #[.int .i64 2, .int .i64 x.time, .bool x.ok, .int .i64 x.p0, .int .i64 x.p1, .int .i64 x.p2, .int .i64 x.l0, .int .i64 x.l1, .int .i64 x.l2, .slice A n c, .int .i64 x.prn, .int .i64 x.lag, .int .i64 x.power, .string x.text]) ∧ w'.cell? ⟨w.heap.size, 1, none⟩ = some (.int .i64 x.time) ∧ w'.cell? ⟨w.heap.size, 2, none⟩ = some (.bool x.ok) ∧ w'.cell? ⟨w.heap.size, 10, none⟩ = some (.int .i64 x.prn) ∧ w'.cell? ⟨w.heap.size, 11, none⟩ = some (.int .i64 x.lag) ∧ w'.cell? ⟨w.heap.size, 12, none⟩ = some (.int .i64 x.power)) (first | exact snS2 ⟨Below.drew HB1.out, Blk.drew HX1.out⟩ | assumption | exact snS2 (keepX (by assumption) (by assumption)))
    (first
      | (go_at_call 42; refine (HONE.out _).mono ?_; rintro en w4' ⟨rfl, rfl⟩)
      | (go_at_call 41; refine (HD.out _ (by simp) _).mono ?_; rintro en w5 ⟨rfl, hb5⟩; have HS5 := Lib.hid (keepX hb5 (by assumption))))
  have HB5 := Lib.hid HS5.out.1
  go_wp2_with fail
  refine (HSum.out _).mono ?_
  rintro en wb ⟨rfl, rfl⟩
  have e1 := HTQ.out
  have e2 := HTR.out
  have v1 : IntKind.i64.wrap ((q : Int) + 1) = (q : Int) + 1 := IntWalk.i64_in _ (by omega)
  have v2 : IntKind.i64.wrap ((r : Int) + 1) = (r : Int) + 1 := IntWalk.i64_in _ (by omega)
  have t1 : ((q : Int) + 1).toNat = q + 1 := by omega
  have t2 : ((r : Int) + 1).toNat = r + 1 := by omega
  have b1 : (q : Int) + 1 ≤ 16 := by omega
  have b2 : (r : Int) + 1 ≤ 16 := by omega
  go_wp2_with fail
  go_quiet (fail)
  go_wp2_with fail
  go_ret2
  exact ⟨by rw [HDD.out]; rfl, below_drewN HB5.out _⟩
end Go.Proofs.YteeekdffbcbamaaGreatDoor
