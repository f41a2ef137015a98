/-
  WALKS: the law ReportKnown: the chapter's examples, and the errors.
-/
import Derived.Test.YteeekdffbcbamaaDoorKnownA
namespace Go.Proofs.YteeekdffbcbamaaDoor
open Go.RowKit

theorem kp0 : Plain.parse ⟨#[36, 84, 88, 84, 44, 53, 44, 104, 105, 42, 54, 68]⟩ = (Plain.zeroSn, 14, 10) := by kernel_rfl
theorem kp1 : Plain.parse ⟨#[36, 84, 88, 84, 44, 53, 44, 104, 105, 42, 54]⟩ = (Plain.zeroSn, 11, 11) := by kernel_rfl
theorem kp2 : Plain.parse ⟨#[36, 84, 88, 84, 44, 53, 44, 104, 105]⟩ = (Plain.zeroSn, 11, 9) := by kernel_rfl
theorem kp3 : Plain.parse ⟨#[84, 88, 84]⟩ = (Plain.zeroSn, 11, 0) := by kernel_rfl
theorem kp4 : Plain.parse ⟨#[36, 84, 88, 84, 44, 48, 53, 42, 55, 49]⟩ = (Plain.zeroSn, 11, 5) := by kernel_rfl
theorem kp5 : Plain.parse ⟨#[36, 84, 88, 84, 44, 53, 42, 52, 49]⟩ = (Plain.zeroSn, 11, 6) := by kernel_rfl
theorem kp6 : Plain.parse ⟨#[36, 65, 66, 67, 42, 52, 48]⟩ = (Plain.zeroSn, 11, 1) := by kernel_rfl
theorem kp7 : Plain.parse ⟨#[]⟩ = (Plain.zeroSn, 11, 0) := by kernel_rfl
theorem ks1 : Plain.goodL (Plain.lines ⟨#[36, 84, 88, 84, 44, 53, 44, 104, 105, 42, 54, 67, 10, 120, 10, 10]⟩) = [hiSn] := by kernel_rfl
theorem ks2 : Plain.badL (Plain.lines ⟨#[36, 84, 88, 84, 44, 53, 44, 104, 105, 42, 54, 67, 10, 120, 10, 10]⟩) = [1, 2] := by kernel_rfl
theorem ks3 : Plain.goodL (Plain.lines ⟨#[]⟩) = [] := by kernel_rfl
theorem ks4 : Plain.badL (Plain.lines ⟨#[]⟩) = [] := by kernel_rfl
def xSn : Plain.Sn := ⟨3, 5, true, 0, 0, 0, 0, 0, 0, [], 0, 0, 0, ⟨#[104, 105]⟩⟩
def ySn : Plain.Sn := ⟨3, 5, false, 0, 0, 0, 0, 0, 0, [], 0, 0, 0, ⟨#[97, 44, 98]⟩⟩
def zSn : Plain.Sn := ⟨4, 0, false, 0, 0, 0, 0, 0, 0, [], 0, 0, 0, ⟨#[]⟩⟩
def uSn : Plain.Sn := ⟨2, 0, false, 0, 0, 0, 0, 0, 0, [], 64, 0, 0, ⟨#[]⟩⟩
theorem kx : Plain.checkE xSn = 3 := (Plain.checkE_3 (x := xSn) rfl rfl).2 (fun h => by have := h.1; cases this)
theorem ky : Plain.checkE ySn = 3 := by
  rw [(Plain.checkE_3 (x := ySn) rfl rfl).1 ⟨rfl, rfl, rfl, rfl, rfl, rfl, rfl, rfl, rfl, rfl, rfl⟩]
  rfl
theorem kz : Plain.checkE zSn = 3 := Plain.checkE_kind ⟨by decide, by decide, by decide⟩
theorem ku : Plain.checkE uSn = 2 := by
  rw [(Plain.checkE_2 (x := uSn) rfl rfl).1 ⟨rfl, rfl, rfl, rfl, rfl, rfl, rfl, rfl⟩]
  rfl

theorem check_x (W : World) : Calls Tryd.prog 11 #[.agg #[.int .i64 3, .int .i64 5, .bool true, .int .i64 0, .int .i64 0, .int .i64 0, .int .i64 0, .int .i64 0, .int .i64 0, .slice none 0 0, .int .i64 0, .int .i64 0, .int .i64 0, .string ⟨#[104, 105]⟩]] W fun en w' => en = .returned (.int .i64 3) ∧ Below W.heap.size W w' := by
  have h := check_any xSn none 0 W (PrL.nil _ _) (by decide) (by decide)
  rw [kx] at h
  exact h
theorem check_y (W : World) : Calls Tryd.prog 11 #[.agg #[.int .i64 3, .int .i64 5, .bool false, .int .i64 0, .int .i64 0, .int .i64 0, .int .i64 0, .int .i64 0, .int .i64 0, .slice none 0 0, .int .i64 0, .int .i64 0, .int .i64 0, .string ⟨#[97, 44, 98]⟩]] W fun en w' => en = .returned (.int .i64 3) ∧ Below W.heap.size W w' := by
  have h := check_any ySn none 0 W (PrL.nil _ _) (by decide) (by decide)
  rw [ky] at h
  exact h
theorem check_z (W : World) : Calls Tryd.prog 11 #[.agg #[.int .i64 4, .int .i64 0, .bool false, .int .i64 0, .int .i64 0, .int .i64 0, .int .i64 0, .int .i64 0, .int .i64 0, .slice none 0 0, .int .i64 0, .int .i64 0, .int .i64 0, .string ⟨#[]⟩]] W fun en w' => en = .returned (.int .i64 3) ∧ Below W.heap.size W w' := by
  have h := check_any zSn none 0 W (PrL.nil _ _) (by decide) (by decide)
  rw [kz] at h
  exact h
theorem check_u (W : World) : Calls Tryd.prog 11 #[.agg #[.int .i64 2, .int .i64 0, .bool false, .int .i64 0, .int .i64 0, .int .i64 0, .int .i64 0, .int .i64 0, .int .i64 0, .slice none 0 0, .int .i64 64, .int .i64 0, .int .i64 0, .string ⟨#[]⟩]] W fun en w' => en = .returned (.int .i64 2) ∧ Below W.heap.size W w' := by
  have h := check_any uSn none 0 W (PrL.nil _ _) (by decide) (by decide)
  rw [ku] at h
  exact h
theorem sum_0 (W : World) : Calls Tryd.prog 5 #[.string ⟨#[65]⟩] W fun e w' => e = .returned (.int .i64 65) ∧ W = w' := by
  have h := sum_any ⟨#[65]⟩ W (by decide)
  have e : Plain.sumN (⟨#[65]⟩ : ByteArray).data.toList = 65 := by kernel_rfl
  rw [e] at h
  exact h
theorem sum_1 (W : World) : Calls Tryd.prog 5 #[.string ⟨#[65, 65]⟩] W fun e w' => e = .returned (.int .i64 0) ∧ W = w' := by
  have h := sum_any ⟨#[65, 65]⟩ W (by decide)
  have e : Plain.sumN (⟨#[65, 65]⟩ : ByteArray).data.toList = 0 := by kernel_rfl
  rw [e] at h
  exact h
theorem sum_2 (W : World) : Calls Tryd.prog 5 #[.string ⟨#[84, 88, 84, 44, 53, 44, 104, 105]⟩] W fun e w' => e = .returned (.int .i64 108) ∧ W = w' := by
  have h := sum_any ⟨#[84, 88, 84, 44, 53, 44, 104, 105]⟩ W (by decide)
  have e : Plain.sumN (⟨#[84, 88, 84, 44, 53, 44, 104, 105]⟩ : ByteArray).data.toList = 108 := by kernel_rfl
  rw [e] at h
  exact h
theorem sum_3 (W : World) : Calls Tryd.prog 5 #[.string ⟨#[]⟩] W fun e w' => e = .returned (.int .i64 0) ∧ W = w' := by
  have h := sum_any ⟨#[]⟩ W (by decide)
  have e : Plain.sumN (⟨#[]⟩ : ByteArray).data.toList = 0 := by kernel_rfl
  rw [e] at h
  exact h
theorem fault_0 (W : World) (he : Env W) : Calls Tryd.prog 6 #[.string ⟨#[36, 84, 88, 84, 44, 53, 44, 104, 105, 42, 54, 68]⟩, .int .i64 14, .int .i64 10] W fun en w' => en = .returned (.bool true) ∧ Below W.heap.size W w' := faults_any _ _ _ W he (by decide) kp0
theorem fault_1 (W : World) (he : Env W) : Calls Tryd.prog 6 #[.string ⟨#[36, 84, 88, 84, 44, 53, 44, 104, 105, 42, 54]⟩, .int .i64 11, .int .i64 11] W fun en w' => en = .returned (.bool true) ∧ Below W.heap.size W w' := faults_any _ _ _ W he (by decide) kp1
theorem fault_2 (W : World) (he : Env W) : Calls Tryd.prog 6 #[.string ⟨#[36, 84, 88, 84, 44, 53, 44, 104, 105]⟩, .int .i64 11, .int .i64 9] W fun en w' => en = .returned (.bool true) ∧ Below W.heap.size W w' := faults_any _ _ _ W he (by decide) kp2
theorem fault_3 (W : World) (he : Env W) : Calls Tryd.prog 6 #[.string ⟨#[84, 88, 84]⟩, .int .i64 11, .int .i64 0] W fun en w' => en = .returned (.bool true) ∧ Below W.heap.size W w' := faults_any _ _ _ W he (by decide) kp3
theorem fault_4 (W : World) (he : Env W) : Calls Tryd.prog 6 #[.string ⟨#[36, 84, 88, 84, 44, 48, 53, 42, 55, 49]⟩, .int .i64 11, .int .i64 5] W fun en w' => en = .returned (.bool true) ∧ Below W.heap.size W w' := faults_any _ _ _ W he (by decide) kp4
theorem fault_5 (W : World) (he : Env W) : Calls Tryd.prog 6 #[.string ⟨#[36, 84, 88, 84, 44, 53, 42, 52, 49]⟩, .int .i64 11, .int .i64 6] W fun en w' => en = .returned (.bool true) ∧ Below W.heap.size W w' := faults_any _ _ _ W he (by decide) kp5
theorem fault_6 (W : World) (he : Env W) : Calls Tryd.prog 6 #[.string ⟨#[36, 65, 66, 67, 42, 52, 48]⟩, .int .i64 11, .int .i64 1] W fun en w' => en = .returned (.bool true) ∧ Below W.heap.size W w' := faults_any _ _ _ W he (by decide) kp6
theorem fault_7 (W : World) (he : Env W) : Calls Tryd.prog 6 #[.string ⟨#[]⟩, .int .i64 11, .int .i64 0] W fun en w' => en = .returned (.bool true) ∧ Below W.heap.size W w' := faults_any _ _ _ W he (by decide) kp7
theorem split_of (s : ByteArray) (W : World) (he : Env W) (hs : s.size ≤ 100000) (G : List Plain.Sn) (B : List Int) (hG : Plain.goodL (Plain.lines s) = G) (hB : Plain.badL (Plain.lines s) = B) : Calls Tryd.prog 7 #[.string s] W fun en w' => ∃ A c A3 c3 es, en = .returned (.tuple #[.slice A G.length c, .slice A3 B.length c3, .int .i64 0]) ∧ SnAt w' A es ∧ es.map (·.1) = G ∧ PrL w' A3 B ∧ Below W.heap.size W w' := by
  refine (split_any s W he hs).mono ?_
  rintro en w' ⟨v2, v3, es, rfl, hS, hE, hb⟩
  rw [hB] at hS
  rw [hG] at hE
  obtain ⟨A, c, rfl, hA⟩ := hS.reads
  obtain ⟨A3, c3, rfl⟩ := own_formQ hS.2.1
  have h3 := own_PrL (own_less hS.2.1 (Nat.zero_le _))
  have hl : es.length = G.length := by rw [← hE, List.length_map]
  rw [hl]
  exact ⟨A, c, A3, c3, es, rfl, hA, hE, h3, hb⟩
theorem split_1 (W : World) (he : Env W) : Calls Tryd.prog 7 #[.string ⟨#[36, 84, 88, 84, 44, 53, 44, 104, 105, 42, 54, 67, 10, 120, 10, 10]⟩] W fun en w' => ∃ A c A3 c3 es, en = .returned (.tuple #[.slice A 1 c, .slice A3 2 c3, .int .i64 0]) ∧ SnAt w' A es ∧ es.map (·.1) = [hiSn] ∧ PrL w' A3 [1, 2] ∧ Below W.heap.size W w' :=
  split_of _ W he (by decide) [hiSn] [1, 2] ks1 ks2
theorem split_0 (W : World) (he : Env W) : Calls Tryd.prog 7 #[.string ⟨#[]⟩] W fun en w' => ∃ A c A3 c3 es, en = .returned (.tuple #[.slice A 0 c, .slice A3 0 c3, .int .i64 0]) ∧ SnAt w' A es ∧ es.map (·.1) = ([] : List Plain.Sn) ∧ PrL w' A3 [] ∧ Below W.heap.size W w' :=
  split_of _ W he (by decide) [] [] ks3 ks4
theorem sn_one (w : World) : SnAt (w.alloc (.cells #[.int .i64 3, .int .i64 5, .bool false, .int .i64 0, .int .i64 0, .int .i64 0, .int .i64 0, .int .i64 0, .int .i64 0, .slice none 0 0, .int .i64 0, .int .i64 0, .int .i64 0, .string ⟨#[104, 105]⟩] 31)) (some ⟨w.heap.size, 0, none⟩) [(hiSn, .slice none 0 0)] := by
  intro j hj
  obtain rfl : j = 0 := by simpa using hj
  refine ⟨w.heap.size, 0, rfl, ⟨none, 0, rfl, PrL.nil _ _⟩, fun k u hk => ?_⟩
  rw [show 0 + 0 * 14 + k = k by omega]
  exact ((Blk.new_at (w := w) (t := 31) (cs := #[.int .i64 3, .int .i64 5, .bool false, .int .i64 0, .int .i64 0, .int .i64 0, .int .i64 0, .int .i64 0, .int .i64 0, .slice none 0 0, .int .i64 0, .int .i64 0, .int .i64 0, .string ⟨#[104, 105]⟩]) rfl).cell k).trans hk
theorem prl_two (w : World) : PrL (w.alloc (.cells #[.int .i64 1, .int .i64 2] 3)) (some ⟨w.heap.size, 0, none⟩) [1, 2] := by
  intro j hj
  refine ⟨_, rfl, ?_⟩
  have hB := Blk.new_at (w := w) (t := 3) (cs := #[.int .i64 1, .int .i64 2]) rfl
  have hj2 : j = 0 ∨ j = 1 := by simp at hj; omega
  rcases hj2 with rfl | rfl
  · exact hB.cell 0
  · exact hB.cell 1

set_option maxRecDepth 100000 in
set_option maxHeartbeats 8000000 in
theorem known_of (w : World) (he : Env w) : Calls Tryd.prog 3 #[] w fun en w' => en = .returned (.bool true) ∧ Below w.heap.size w w' := by
  have HE := Lib.hid he; clear he
  have S0 := Lib.hid sum_0
  have S1 := Lib.hid sum_1
  have S2 := Lib.hid sum_2
  have S3 := Lib.hid sum_3
  have F0 := Lib.hid fault_0
  have F1 := Lib.hid fault_1
  have F2 := Lib.hid fault_2
  have F3 := Lib.hid fault_3
  have F4 := Lib.hid fault_4
  have F5 := Lib.hid fault_5
  have F6 := Lib.hid fault_6
  have F7 := Lib.hid fault_7
  have HS1 := Lib.hid split_1
  have HS0 := Lib.hid split_0
  have HH := Lib.hid hi_lit
  have HC1 := Lib.hid check_x
  have HC2 := Lib.hid check_y
  have HC3 := Lib.hid check_z
  have HC4 := Lib.hid check_u
  have HAW := Lib.hid (fun W he => awake_any W he)
  go_enter Tryd.func3, Tryd.ntmps3
  go_wp2_with fail
  refine (S0.out _).mono ?_
  rintro en wz ⟨rfl, rfl⟩
  go_wp2_with fail
  refine (S1.out _).mono ?_
  rintro en wz ⟨rfl, rfl⟩
  go_wp2_with fail
  refine (S2.out _).mono ?_
  rintro en wz ⟨rfl, rfl⟩
  go_wp2_with fail
  refine (S3.out _).mono ?_
  rintro en wz ⟨rfl, rfl⟩
  have HB := Lib.hid (Below.refl w.heap.size w)
  go_wp2_with fail
  refine (F0.out _ (HE.out.below HB.out HE.out.1)).mono ?_
  rintro en wf0 ⟨rfl, hb⟩
  have HB' := Lib.hid (HB.out.trans (hb.mono HB.out.size)); clear hb HB
  have HB := HB'; clear HB'
  go_wp2_with fail
  refine (F1.out _ (HE.out.below HB.out HE.out.1)).mono ?_
  rintro en wf1 ⟨rfl, hb⟩
  have HB' := Lib.hid (HB.out.trans (hb.mono HB.out.size)); clear hb HB
  have HB := HB'; clear HB'
  go_wp2_with fail
  refine (F2.out _ (HE.out.below HB.out HE.out.1)).mono ?_
  rintro en wf2 ⟨rfl, hb⟩
  have HB' := Lib.hid (HB.out.trans (hb.mono HB.out.size)); clear hb HB
  have HB := HB'; clear HB'
  go_wp2_with fail
  refine (F3.out _ (HE.out.below HB.out HE.out.1)).mono ?_
  rintro en wf3 ⟨rfl, hb⟩
  have HB' := Lib.hid (HB.out.trans (hb.mono HB.out.size)); clear hb HB
  have HB := HB'; clear HB'
  go_wp2_with fail
  refine (F4.out _ (HE.out.below HB.out HE.out.1)).mono ?_
  rintro en wf4 ⟨rfl, hb⟩
  have HB' := Lib.hid (HB.out.trans (hb.mono HB.out.size)); clear hb HB
  have HB := HB'; clear HB'
  go_wp2_with fail
  refine (F5.out _ (HE.out.below HB.out HE.out.1)).mono ?_
  rintro en wf5 ⟨rfl, hb⟩
  have HB' := Lib.hid (HB.out.trans (hb.mono HB.out.size)); clear hb HB
  have HB := HB'; clear HB'
  go_wp2_with fail
  refine (F6.out _ (HE.out.below HB.out HE.out.1)).mono ?_
  rintro en wf6 ⟨rfl, hb⟩
  have HB' := Lib.hid (HB.out.trans (hb.mono HB.out.size)); clear hb HB
  have HB := HB'; clear HB'
  go_wp2_with fail
  refine (F7.out _ (HE.out.below HB.out HE.out.1)).mono ?_
  rintro en wf7 ⟨rfl, hb⟩
  have HB' := Lib.hid (HB.out.trans (hb.mono HB.out.size)); clear hb HB
  have HB := HB'; clear HB'
  go_upto_region 5 with (fail)
  go_wp2_with fail
  refine (HS1.out _ (HE.out.below HB.out HE.out.1)).mono ?_
  rintro en w1 ⟨A, c, A3, c3, es, rfl, hA, hes, h3, hb⟩
  have HES := Lib.hid hes; clear hes
  have HA1 := Lib.hid hA
  have H31 := Lib.hid h3
  have HB1 := Lib.hid (HB.out.trans (hb.mono HB.out.size)); clear hb HB hA h3
  go_wp2_with fail
  refine (HS0.out _ (HE.out.below HB1.out HE.out.1)).mono ?_
  rintro en w2 ⟨A4, c4, A5, c5, es0, rfl, -, -, -, hb⟩
  have HA2 := Lib.hid (HA1.out.below hb)
  have H32 := Lib.hid (H31.out.below hb (Nat.le_refl _))
  have HB2 := Lib.hid (HB1.out.trans (hb.mono HB1.out.size)); clear hb HB1 HA1 H31
  go_wp2_with fail
  refine (HH.out _).mono ?_
  rintro en w3 ⟨rfl, hb⟩
  have HA3 := Lib.hid (HA2.out.below hb)
  have H33 := Lib.hid (H32.out.below hb (Nat.le_refl _))
  have HB3 := Lib.hid (HB2.out.trans (hb.mono HB2.out.size)); clear hb HB2 HA2 H32
  go_upto_region 9 with (fail)
  obtain ⟨w4, hw4⟩ : ∃ w4, w3.alloc (.cells #[.int .i64 3, .int .i64 5, .bool true, .int .i64 0, .int .i64 0, .int .i64 0, .int .i64 0, .int .i64 0, .int .i64 0, .slice none 0 0, .int .i64 0, .int .i64 0, .int .i64 0, .string ⟨#[104, 105]⟩] 31) = w4 := ⟨_, rfl⟩
  have hb34 : Below w3.heap.size w3 w4 := hw4 ▸ (Below.refl _ _).alloc (Nat.le_refl _) _
  have HX4 := Lib.hid (show Blk w4 w3.heap.size 31 _ from hw4 ▸ Blk.new_at rfl)
  have hsz4 : w4.heap.size = w3.heap.size + 1 := by rw [← hw4]; simp
  rw [hw4]
  clear hw4
  have HA4 := Lib.hid (HA3.out.below hb34)
  have H34 := Lib.hid (H33.out.below hb34 (Nat.le_refl _))
  have HB4 := Lib.hid (HB3.out.trans (hb34.mono HB3.out.size)); clear hb34 HB3 HA3 H33
  obtain ⟨gx, hgx⟩ : ∃ gx, w3.heap.size = gx := ⟨_, rfl⟩
  rw [hgx] at HX4 hsz4 ⊢
  clear hgx
  go_wp2_with fail
  refine (HH.out _).mono ?_
  rintro en w5 ⟨rfl, hb⟩
  have HX5 := Lib.hid (HX4.out.below hb (by omega))
  have HA5 := Lib.hid (HA4.out.below hb)
  have H35 := Lib.hid (H34.out.below hb (Nat.le_refl _))
  have hsz5 := hb.size
  have HB5 := Lib.hid (HB4.out.trans (hb.mono HB4.out.size)); clear hb HB4 HA4 H34 HX4
  go_upto_region 11 with (fail)
  obtain ⟨w6, hw6⟩ : ∃ w6, w5.alloc (.cells #[.int .i64 3, .int .i64 5, .bool false, .int .i64 0, .int .i64 0, .int .i64 0, .int .i64 0, .int .i64 0, .int .i64 0, .slice none 0 0, .int .i64 0, .int .i64 0, .int .i64 0, .string ⟨#[97, 44, 98]⟩] 31) = w6 := ⟨_, rfl⟩
  have hb56 : Below w5.heap.size w5 w6 := hw6 ▸ (Below.refl _ _).alloc (Nat.le_refl _) _
  have HY6 := Lib.hid (show Blk w6 w5.heap.size 31 _ from hw6 ▸ Blk.new_at rfl)
  have hsz6 : w6.heap.size = w5.heap.size + 1 := by rw [← hw6]; simp
  rw [hw6]
  clear hw6
  have HX6 := Lib.hid (HX5.out.below hb56 (by omega))
  have HA6 := Lib.hid (HA5.out.below hb56)
  have H36 := Lib.hid (H35.out.below hb56 (Nat.le_refl _))
  have HB6 := Lib.hid (HB5.out.trans (hb56.mono HB5.out.size)); clear hb56 HB5 HA5 H35 HX5
  obtain ⟨gy, hgy⟩ : ∃ gy, w5.heap.size = gy := ⟨_, rfl⟩
  rw [hgy] at HY6 hsz6 hsz5 ⊢
  clear hgy
  have hlt6 : gx < w6.heap.size ∧ gy < w6.heap.size := by omega
  clear hsz4 hsz5 hsz6
  go_wp2_with fail
  refine (HH.out _).mono ?_
  rintro en w7 ⟨rfl, hb⟩
  have HX7 := Lib.hid (HX6.out.below hb (by omega))
  have HY7 := Lib.hid (HY6.out.below hb (by omega))
  have HA7 := Lib.hid (HA6.out.below hb)
  have H37 := Lib.hid (H36.out.below hb (Nat.le_refl _))
  have hlt7 : gx < w7.heap.size ∧ gy < w7.heap.size := by have := hb.size; omega
  have HB7 := Lib.hid (HB6.out.trans (hb.mono HB6.out.size)); clear hb HB6 HA6 H36 HX6 HY6 hlt6
  go_wp2_with fail
  have hS8 := sn_one w7
  obtain ⟨w8, hw8⟩ : ∃ w8, w7.alloc (.cells #[.int .i64 3, .int .i64 5, .bool false, .int .i64 0, .int .i64 0, .int .i64 0, .int .i64 0, .int .i64 0, .int .i64 0, .slice none 0 0, .int .i64 0, .int .i64 0, .int .i64 0, .string ⟨#[104, 105]⟩] 31) = w8 := ⟨_, rfl⟩
  rw [hw8] at hS8
  have hb78 : Below w7.heap.size w7 w8 := hw8 ▸ (Below.refl _ _).alloc (Nat.le_refl _) _
  rw [hw8]
  clear hw8
  have HX8 := Lib.hid (HX7.out.below hb78 (by omega))
  have HY8 := Lib.hid (HY7.out.below hb78 (by omega))
  have HA8 := Lib.hid (HA7.out.below hb78)
  have H38 := Lib.hid (H37.out.below hb78 (Nat.le_refl _))
  have HS8 := Lib.hid hS8
  have hlt8 : gx < w8.heap.size ∧ gy < w8.heap.size := by have := hb78.size; omega
  have HB8 := Lib.hid (HB7.out.trans (hb78.mono HB7.out.size)); clear hb78 HB7 HA7 H37 HX7 HY7 hlt7 hS8
  have hel : es.length = 1 := by have := congrArg List.length HES.out; simpa using this
  have hpr : ∀ e ∈ es, e.1.prns.length ≤ 9223372036854775807 := by
    intro e he
    have h1 : e.1 ∈ es.map (·.1) := List.mem_map_of_mem he
    rw [HES.out] at h1
    have h2 : e.1 = hiSn := by simpa using h1
    rw [h2]
    decide
  have HSA := Lib.hid (sameAll_any es [(hiSn, .slice none 0 0)] A (some ⟨w7.heap.size, 0, none⟩) 1 c 1 w8 hel rfl (by decide) hpr HES.out HA8.out HS8.out)
  clear hel hpr HA8 HS8 HES
  refine HSA.out.mono ?_
  rintro en w9 ⟨rfl, hb⟩
  have HX9 := Lib.hid (HX8.out.below hb (by omega))
  have HY9 := Lib.hid (HY8.out.below hb (by omega))
  have H39 := Lib.hid (H38.out.below hb (Nat.le_refl _))
  have hlt9 : gx < w9.heap.size ∧ gy < w9.heap.size := by have := hb.size; omega
  have HB9 := Lib.hid (HB8.out.trans (hb.mono HB8.out.size)); clear hb HB8 H38 HX8 HY8 hlt8 HSA
  go_wp2_with fail
  have hP10 := prl_two w9
  obtain ⟨w10, hw10⟩ : ∃ w10, w9.alloc (.cells #[.int .i64 1, .int .i64 2] 3) = w10 := ⟨_, rfl⟩
  rw [hw10] at hP10
  have hb910 : Below w9.heap.size w9 w10 := hw10 ▸ (Below.refl _ _).alloc (Nat.le_refl _) _
  rw [hw10]
  clear hw10
  have HX10 := Lib.hid (HX9.out.below hb910 (by omega))
  have HY10 := Lib.hid (HY9.out.below hb910 (by omega))
  have HAL := Lib.hid (alike_eq [1, 2] A3 (some ⟨w9.heap.size, 0, none⟩) 2 c3 2 w10 rfl (by decide) (H39.out.below hb910 (Nat.le_refl _)) hP10)
  have hlt10 : gx < w10.heap.size ∧ gy < w10.heap.size := by have := hb910.size; omega
  have HB10 := Lib.hid (HB9.out.trans (hb910.mono HB9.out.size)); clear hb910 HB9 H39 HX9 HY9 hlt9 hP10
  refine HAL.out.mono ?_
  rintro en w11 ⟨rfl, kk, rfl⟩
  have hX11 : Blk (w10.drewN kk) gx 31 _ := HX10.out
  have hY11 : Blk (w10.drewN kk) gy 31 _ := HY10.out
  have hB11 : Below w.heap.size w (w10.drewN kk) := HB10.out.trans ⟨rfl, rfl, rfl, Nat.le_refl _, fun _ _ => rfl⟩
  have hlt11 : gx < (w10.drewN kk).heap.size ∧ gy < (w10.drewN kk).heap.size := hlt10
  clear HAL HX10 HY10 HB10 hlt10
  generalize w10.drewN kk = w12 at *
  have HX12 := Lib.hid hX11
  have HY12 := Lib.hid hY11
  have HB12 := Lib.hid hB11
  clear hX11 hY11 hB11
  obtain ⟨x0, x1, x2, x3, x4, x5, x6, x7, x8, x9, x10, x11, x12, x13⟩ := Blk.cells14 HX12.out
  go_wp2_with fail
  refine (HC1.out w12).mono ?_
  rintro en w13 ⟨rfl, hb⟩
  have HY13 := Lib.hid (HY12.out.below hb (by omega))
  have HB13 := Lib.hid (HB12.out.trans (hb.mono HB12.out.size)); clear hb HB12 HX12 HY12 x0 x1 x2 x3 x4 x5 x6 x7 x8 x9 x10 x11 x12 x13
  obtain ⟨y0, y1, y2, y3, y4, y5, y6, y7, y8, y9, y10, y11, y12, y13⟩ := Blk.cells14 HY13.out
  go_wp2_with fail
  refine (HC2.out w13).mono ?_
  rintro en w14 ⟨rfl, hb⟩
  have HB14 := Lib.hid (HB13.out.trans (hb.mono HB13.out.size)); clear hb HB13 HY13 y0 y1 y2 y3 y4 y5 y6 y7 y8 y9 y10 y11 y12 y13
  go_wp2_with fail
  refine (HC3.out w14).mono ?_
  rintro en w15 ⟨rfl, hb⟩
  have HB15 := Lib.hid (HB14.out.trans (hb.mono HB14.out.size)); clear hb HB14
  go_wp2_with fail
  refine (HC4.out w15).mono ?_
  rintro en w16 ⟨rfl, hb⟩
  have HB16 := Lib.hid (HB15.out.trans (hb.mono HB15.out.size)); clear hb HB15
  go_wp2_with fail
  refine (HAW.out w16 (HE.out.below HB16.out HE.out.1)).mono ?_
  rintro en w17 ⟨rfl, hb⟩
  have HB17 := Lib.hid (HB16.out.trans (hb.mono HB16.out.size)); clear hb HB16
  go_wp2_with fail
  go_ret
  exact ⟨rfl, HB17.out⟩
end Go.Proofs.YteeekdffbcbamaaDoor
