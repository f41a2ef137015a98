/-
  WALKS: the reference's Parse, at SAT.
-/
import Derived.Test.YteeekdffbcbamaaGreatDoorRPk
namespace Go.Proofs.YteeekdffbcbamaaGreatDoor
open Go.RowKit

set_option maxRecDepth 100000 in
set_option maxHeartbeats 4000000 in
theorem rp_k2 (s : ByteArray) (w : World) (h : s.size ≤ 500) (hd : s.data.toList.head? = some 36) (e : Nat) (he : Plain.starN s = e) (hx : 0 ≤ Plain.hexAt s (e + 1)) (hy : 0 ≤ Plain.hexAt s (e + 2)) (c1 : s.size ≤ e + 3) (hm : (Plain.sumN (s.extract 1 e).data.toList : Int) = 16 * Plain.hexAt s (e + 1) + Plain.hexAt s (e + 2)) (hW : (Plain.wordF s e).data.toList = [83, 65, 84]) : Calls Tryz.prog 15 #[.string s] w (ParsePost w (Plain.fieldsP s e 2)) := by
  have h1' := Plain.hexAt_lt hx
  have h2' := Plain.hexAt_lt hy
  rw [Plain.hexAt_get h1', Plain.hexAt_get h2'] at hm
  have hE1 : 1 ≤ e := by rw [← he]; exact Plain.star_pos hd
  have HF1 := Lib.hid (fun b W (h : Rs W b 78 s e Plain.st0 #[]) => rfield_st b 78 s e Plain.st0 #[] W h (Plain.okSt_st0 hE1) (by omega) (by omega))
  rw [Plain.fldS_st0] at HF1
  change Hid (∀ b W, Rs W b 78 s e Plain.st0 #[] → Calls Tryz.prog 36 #[.pointer (some ⟨b, 0, none⟩)] W fun en w' => (∃ z : Int, en = .returned (.tuple #[.string (Plain.wordF s e), .int .i64 z]) ∧ ((Plain.stW s e).er = 0 → z = (1 : Nat))) ∧ Rs w' b 78 s e (Plain.stW s e) #[] ∧ W.grownBy w' (some b)) at HF1
  obtain ⟨Fw, hFw⟩ : ∃ Fw, Plain.wordF s e = Fw := ⟨_, rfl⟩
  rw [hFw] at HF1 hW
  have hWl : Fw.toList = [83, 65, 84] := by rw [ByteArray.toList_eq]; exact hW
  have HWL := Lib.hid hWl; clear hWl hW hFw
  have HNT := Lib.hid (fun b W (h : Rs W b 78 s e (Plain.stW s e) #[]) => rnumber_st b 78 s e (Plain.stW s e) #[] W 0 604799999 2 h (Plain.okSt_W hE1) (by omega) (by omega) (by omega) (by omega) (by omega) (by omega))
  change Hid (∀ b W, Rs W b 78 s e (Plain.stW s e) #[] → Calls Tryz.prog 37 #[.pointer (some ⟨b, 0, none⟩), .int .i64 (0), .int .i64 604799999, .int .i64 2] W fun en w' => ∃ z, en = .returned (.int .i64 z) ∧ ((Plain.stT s e).er = 0 → z = Plain.numO s e (Plain.stW s e)) ∧ Rs w' b 78 s e (Plain.stT s e) #[] ∧ W.grownBy w' (some b)) at HNT
  have HOT := Lib.hid (Plain.okSt_T (s := s) hE1)
  have HN1 := Lib.hid (fun b W (h : Rs W b 78 s e (Plain.stT s e) #[]) => rnumber_st b 78 s e (Plain.stT s e) #[] W 0 1 2 h (Plain.okSt_T hE1) (by omega) (by omega) (by omega) (by omega) (by omega) (by omega))
  change Hid (∀ b W, Rs W b 78 s e (Plain.stT s e) #[] → Calls Tryz.prog 37 #[.pointer (some ⟨b, 0, none⟩), .int .i64 (0), .int .i64 1, .int .i64 2] W fun en w' => ∃ z, en = .returned (.int .i64 z) ∧ ((Plain.chan1 s e (Plain.stT s e)).er = 0 → z = Plain.numO s e (Plain.stT s e)) ∧ Rs w' b 78 s e (Plain.chan1 s e (Plain.stT s e)) #[] ∧ W.grownBy w' (some b)) at HN1
  have HN2 := Lib.hid (fun b W (h : Rs W b 78 s e (Plain.chan1 s e (Plain.stT s e)) #[]) => rnumber_st b 78 s e (Plain.chan1 s e (Plain.stT s e)) #[] W 1 63 2 h (Plain.okSt_num (Plain.okSt_T hE1)) (by omega) (by omega) (by omega) (by omega) (by omega) (by omega))
  change Hid (∀ b W, Rs W b 78 s e (Plain.chan1 s e (Plain.stT s e)) #[] → Calls Tryz.prog 37 #[.pointer (some ⟨b, 0, none⟩), .int .i64 (1), .int .i64 63, .int .i64 2] W fun en w' => ∃ z, en = .returned (.int .i64 z) ∧ ((Plain.chan2 s e (Plain.stT s e)).er = 0 → z = Plain.numO s e (Plain.chan1 s e (Plain.stT s e))) ∧ Rs w' b 78 s e (Plain.chan2 s e (Plain.stT s e)) #[] ∧ W.grownBy w' (some b)) at HN2
  have HN3 := Lib.hid (fun b W (h : Rs W b 78 s e (Plain.chan2 s e (Plain.stT s e)) #[]) => rnumber_st b 78 s e (Plain.chan2 s e (Plain.stT s e)) #[] W 0 8191 2 h (Plain.okSt_num (Plain.okSt_num (Plain.okSt_T hE1))) (by omega) (by omega) (by omega) (by omega) (by omega) (by omega))
  change Hid (∀ b W, Rs W b 78 s e (Plain.chan2 s e (Plain.stT s e)) #[] → Calls Tryz.prog 37 #[.pointer (some ⟨b, 0, none⟩), .int .i64 (0), .int .i64 8191, .int .i64 2] W fun en w' => ∃ z, en = .returned (.int .i64 z) ∧ ((Plain.chan3 s e (Plain.stT s e)).er = 0 → z = Plain.numO s e (Plain.chan2 s e (Plain.stT s e))) ∧ Rs w' b 78 s e (Plain.chan3 s e (Plain.stT s e)) #[] ∧ W.grownBy w' (some b)) at HN3
  have HN4 := Lib.hid (fun b W (h : Rs W b 78 s e (Plain.chan3 s e (Plain.stT s e)) #[]) => rnumber_st b 78 s e (Plain.chan3 s e (Plain.stT s e)) #[] W 0 1000000000000000000 2 h (Plain.okSt_num (Plain.okSt_num (Plain.okSt_num (Plain.okSt_T hE1)))) (by omega) (by omega) (by omega) (by omega) (by omega) (by omega))
  change Hid (∀ b W, Rs W b 78 s e (Plain.chan3 s e (Plain.stT s e)) #[] → Calls Tryz.prog 37 #[.pointer (some ⟨b, 0, none⟩), .int .i64 (0), .int .i64 1000000000000000000, .int .i64 2] W fun en w' => ∃ z, en = .returned (.int .i64 z) ∧ ((Plain.chan4 s e (Plain.stT s e)).er = 0 → z = Plain.numO s e (Plain.chan3 s e (Plain.stT s e))) ∧ Rs w' b 78 s e (Plain.chan4 s e (Plain.stT s e)) #[] ∧ W.grownBy w' (some b)) at HN4
  have h1 := Plain.hexAt_lt hx
  have h2 := Plain.hexAt_lt hy
  have he1 : 1 ≤ e := by rw [← he]; exact Plain.star_pos hd
  have hle := Plain.starN_le s
  rw [he] at hle
  have h0 : 0 < s.size := by
    have := Plain.len_size s
    cases hl : s.data.toList with
    | nil => rw [hl] at hd; cases hd
    | cons x r => rw [hl] at this; simp at this; omega
  have hc := head_at hd h0
  have hc2 : s[0].toNat < 256 := s[0].toNat_lt
  have h0' : (0 : Int) < s.size := by omega
  have q0 : ((s.size : Int) == 0) = false := beq_eq_false_iff_ne.2 (by omega)
  have q1 : ((s[0].toNat : Int) != 36) = false := by rw [bne_eq_false_iff_eq]; omega
  have HNE := Lib.hid (fun k (hk : k < s.size) (h : k < e) => star_ne hk (by rw [he]; exact h))
  have HAT := Lib.hid (fun (hk : e < s.size) => star_at he hk)
  clear hc hd he
  rw [Plain.hexAt_get h1] at hx
  rw [Plain.hexAt_get h2] at hy
  have HX := Lib.hid (fun W => rdigit_any s[e + 1] W)
  have hcx : s[e + 1].toNat < 256 := s[e + 1].toNat_lt
  have HXb := Lib.hid (fun W => rdigit_any s[e + 2] W)
  have hcxb : s[e + 2].toNat < 256 := s[e + 2].toNat_lt
  have hz15 := (Plain.hexZ_ge s[e + 1]).2
  have hy15 := (Plain.hexZ_ge s[e + 2]).2
  generalize Plain.hexZ s[e + 1] = z at hx HX hm hz15
  generalize Plain.hexZ s[e + 2] = y at hy HXb hm hy15
  obtain ⟨F, hF⟩ : ∃ F, s.extract 1 e = F := ⟨_, rfl⟩
  have hFs : F.size ≤ 1000000 := by rw [← hF, ByteArray.size_extract]; omega
  have HM := Lib.hid (fun W => rsum_any F W hFs)
  rw [hF] at hm
  have hsb := Plain.sumN_lt F.data.toList
  generalize Plain.sumN F.data.toList = m at hm HM hsb
  have HF := Lib.hid hF; clear hF
  obtain ⟨q, hq⟩ : ∃ q, 16 * z + y = q := ⟨_, rfl⟩
  have hq1 : 0 ≤ q ∧ q ≤ 255 := by omega
  rw [hq] at hm
  have HQ := Lib.hid hq; clear hq
  have w1' : IntKind.i64.wrap (16 * z) = 16 * z := IntWalk.i64_in _ (by omega)
  have HWQ := Lib.hid (show IntKind.i64.wrap (16 * z + y) = q by rw [HQ.out]; exact IntWalk.i64_in _ (by omega))
  have HW1 := Lib.hid w1'; clear w1'
  have c3 : ((m : Int) != q) = false := by rw [bne_eq_false_iff_eq]; exact hm
  clear hm
  go_enter Tryz.func15, Tryz.ntmps15
  go_wp2_with fail
  go_loop [4] (fun i => ∃ k : Nat, k ≤ e ∧ i = .int .i64 k) (fun i => e - (intOf i).toNat)
  case atStart => exact ⟨0, Nat.zero_le _, rfl⟩
  case round =>
    obtain ⟨k, hk, rfl⟩ := hrel
    by_cases hlt : k < e
    · have hks : k < s.size := by omega
      have hne := HNE.out k hks hlt
      have hkc : s[k].toNat < 256 := s[k].toNat_lt
      have q2 : ((s[k].toNat : Int) != 42) = true := by rw [bne_iff_ne]; omega
      clear hne
      go_wp2_with fail
      go_round
      case rel => exact ⟨k + 1, by omega, by go_num⟩
      case measure => simp [intOf]; omega
    · obtain rfl : k = e := by omega
      clear hk hlt
      have hat := HAT.out (by omega)
      have q2 : ((s[k].toNat : Int) != 42) = false := by rw [bne_eq_false_iff_eq]; omega
      have hkc : s[k].toNat < 256 := s[k].toNat_lt
      have q3 : ((k : Int) == s.size) = false := beq_eq_false_iff_ne.2 (by omega)
      clear hat
      go_wp2_with fail
      go_loop [5] (fun i => i = .int .i64 ((k : Int) + 1) ∨ i = .int .i64 ((k : Int) + 2) ∨ i = .int .i64 ((k : Int) + 3)) (fun i => k + 3 - (intOf i).toNat)
      case atStart => exact Or.inl rfl
      case round =>
        rcases hrel with rfl | rfl | rfl
        · go_wp2_with fail
          refine (HX.out _).mono ?_
          rintro en w1 ⟨rfl, rfl⟩
          go_wp2_with fail
          go_round
          case rel => exact Or.inr (Or.inl (by go_num))
          case measure => simp [intOf]; omega
        · go_wp2_with fail
          refine (HXb.out _).mono ?_
          rintro en w1 ⟨rfl, rfl⟩
          go_wp2_with fail
          go_round
          case rel => exact Or.inr (Or.inr (by go_num))
          case measure => simp [intOf]; omega
        · have a1 : IntKind.i64.wrap ((k : Int) + 1) = (k : Int) + 1 := IntWalk.i64_in _ (by omega)
          have a2 : IntKind.i64.wrap ((k : Int) + 2) = (k : Int) + 2 := IntWalk.i64_in _ (by omega)
          have b1 : ((k : Int) + 1).toNat = k + 1 := by omega
          have b2 : ((k : Int) + 2).toNat = k + 2 := by omega
          have d1 : (k : Int) + 1 < s.size := by omega
          have d2 : (k : Int) + 2 < s.size := by omega
          have e1 : (1 : Int) ≤ k := by omega
          have e2 : (k : Int) ≤ s.size := by omega
          have f1 : (0 : Int) ≤ (k : Int) + 1 := by omega
          have f2 : (0 : Int) ≤ (k : Int) + 2 := by omega
          have w1 := HW1.out
          have w2 := HWQ.out
          have w3 := HF.out
          go_wp2_with fail
          go_quiet ((first | (go_at_call 18; with_reducible exact qleft (HM.out _)) | (go_at_call 35; with_reducible exact qleft (HX.out _)) | (go_at_call 35; with_reducible exact qleft (HXb.out _))))
          clear w1 w2 w3
          obtain ⟨w5, hw5⟩ : ∃ w5, ((w.alloc (.cells #[.int .i64 0, .int .i64 0, .bool false, .int .i64 0, .int .i64 0, .int .i64 0, .int .i64 0, .int .i64 0, .int .i64 0, .slice none 0 0, .int .i64 0, .int .i64 0, .int .i64 0, .string ⟨#[]⟩] 28)).alloc (.cells #[.int .i64 0, .int .i64 0] 39)).drewN nq = w5 := ⟨_, rfl⟩
          have hb1 : Blk w5 w.heap.size 28 zeroX := hw5 ▸ Blk.alloc (heap_alloc_new w _) _
          have hb2 : Blk w5 (w.heap.size + 1) 39 #[.int .i64 0, .int .i64 0] := hw5 ▸ heap_new_at (w.alloc _) _ _ (by simp)
          have hbw : Below w.heap.size w w5 := hw5 ▸ ⟨rfl, rfl, rfl, (((Below.refl _ _).alloc (Nat.le_refl _) (.cells #[.int .i64 0, .int .i64 0, .bool false, .int .i64 0, .int .i64 0, .int .i64 0, .int .i64 0, .int .i64 0, .int .i64 0, .slice none 0 0, .int .i64 0, .int .i64 0, .int .i64 0, .string ⟨#[]⟩] 28)).alloc (by simp) (.cells #[.int .i64 0, .int .i64 0] 39)).size, (((Below.refl _ _).alloc (Nat.le_refl _) (.cells #[.int .i64 0, .int .i64 0, .bool false, .int .i64 0, .int .i64 0, .int .i64 0, .int .i64 0, .int .i64 0, .int .i64 0, .slice none 0 0, .int .i64 0, .int .i64 0, .int .i64 0, .string ⟨#[]⟩] 28)).alloc (by simp) (.cells #[.int .i64 0, .int .i64 0] 39)).block⟩
          rw [hw5]
          have hl1 := hb1.lt
          have hl2 := hb2.lt
          have HB1 := Lib.hid hb1; clear hb1
          have HB2 := Lib.hid hb2; clear hb2
          have HBW := Lib.hid hbw; clear hbw hw5
          clear HX HXb HM HF HQ HWQ HW1 HNE HAT q0 q1 q2 q3 c3
          have q11 : (Fw.toList == [70, 73, 88]) = false := by rw [HWL.out]; rfl
          have q21 : (([70, 73, 88] : List UInt8) == Fw.toList) = false := by rw [HWL.out]; rfl
          have q12 : (Fw.toList == [83, 65, 84]) = true := by rw [HWL.out]; rfl
          have q22 : (([83, 65, 84] : List UInt8) == Fw.toList) = true := by rw [HWL.out]; rfl
          have q13 : (Fw.toList == [84, 88, 84]) = false := by rw [HWL.out]; rfl
          have q23 : (([84, 88, 84] : List UInt8) == Fw.toList) = false := by rw [HWL.out]; rfl
          obtain ⟨b, hb⟩ : ∃ b, w5.heap.size = b := ⟨_, rfl⟩
          rw [hb] at hl1 hl2
          go_wp2_with fail
          obtain ⟨w6, hw6⟩ : ∃ w6, (w5.alloc (.cells #[.string s, .int .i64 1, .int .i64 k, .bool true, .int .i64 0, .int .i64 0] 78)).alloc (.cells #[.int .i64 0, .int .i64 0, .bool false, .int .i64 0, .int .i64 0, .int .i64 0, .int .i64 0, .int .i64 0, .int .i64 0, .slice none 0 0, .int .i64 0, .int .i64 0, .int .i64 0, .string ⟨#[]⟩] 28) = w6 := ⟨_, rfl⟩
          have HR6 : Hid (Rs w6 b 78 s k Plain.st0 #[]) := Lib.hid (hw6 ▸ Rd.alloc (hb ▸ rrd_new w5 s k) _)
          have HX6 : Hid (Blk w6 (b + 1) 28 #[.int .i64 0, .int .i64 0, .bool false, .int .i64 0, .int .i64 0, .int .i64 0, .int .i64 0, .int .i64 0, .int .i64 0, .slice none 0 0, .int .i64 0, .int .i64 0, .int .i64 0, .string ⟨#[]⟩]) := Lib.hid (hw6 ▸ heap_new_at _ _ _ (by simp; omega))
          have HB6 : Hid (Below b w5 w6) := Lib.hid (hw6 ▸ (((Below.refl b w5).alloc (by omega) _).alloc (by simp; omega) _))
          rw [hw6]
          clear hw6
          have HBE := Lib.hid hb; clear hb
          refine (HF1.out b w6 HR6.out).mono ?_
          rintro en w7 ⟨⟨zf, rfl, -⟩, hr7, hg7⟩
          have HR7 := Lib.hid hr7; clear hr7
          have HX7 := Lib.hid (HX6.out.grown hg7 (by simp))
          have HB7 := Lib.hid (HB6.out.grown hg7 (Nat.le_of_lt (Rd.lt HR6.out)) (fun g e => by cases e; exact Nat.le_refl _))
          clear hg7 HR6 HX6 HB6 HF1
          have c0 := HX7.out.cell 0
          have fr := HX7.out.frozen
          go_wp2_with fail
          obtain ⟨w8, hw8⟩ : ∃ w8, w7.setCell ⟨b + 1, 0, none⟩ (.int .i64 2) = w8 := ⟨_, rfl⟩
          have HR8 := Lib.hid (hw8 ▸ Rs.far HR7.out (show b ≠ b + 1 by omega) (.int .i64 2) (i := 0))
          have HX8 : Hid (Blk w8 (b + 1) 28 #[.int .i64 2, .int .i64 0, .bool false, .int .i64 0, .int .i64 0, .int .i64 0, .int .i64 0, .int .i64 0, .int .i64 0, .slice none 0 0, .int .i64 0, .int .i64 0, .int .i64 0, .string ⟨#[]⟩]) := Lib.hid (hw8 ▸ HX7.out.put 0 (.int .i64 2) rfl)
          have HB8 := Lib.hid (hw8 ▸ HB7.out.setCell (p := ⟨b + 1, 0, none⟩) (by show b ≤ b + 1; omega) (.int .i64 2))
          rw [hw8]
          clear hw8 HR7 HX7 HB7 c0 fr
          refine (HNT.out b w8 HR8.out).mono ?_
          rintro en w9 ⟨t, rfl, ht, hr9, hg9⟩
          have HR9 := Lib.hid hr9; clear hr9
          have Ht := Lib.hid ht; clear ht
          have HX9 := Lib.hid (HX8.out.grown hg9 (by simp))
          have HB9 := Lib.hid (HB8.out.grown hg9 (Nat.le_of_lt (Rd.lt HR8.out)) (fun g e => by cases e; exact Nat.le_refl _))
          clear hg9 HR8 HX8 HB8 HNT
          have c0 := HX9.out.cell 1
          have fr := HX9.out.frozen
          go_wp2_with fail
          obtain ⟨w10, hw10⟩ : ∃ w10, w9.setCell ⟨b + 1, 1, none⟩ (.int .i64 t) = w10 := ⟨_, rfl⟩
          have HR10 := Lib.hid (hw10 ▸ Rs.far HR9.out (show b ≠ b + 1 by omega) (.int .i64 t) (i := 1))
          have HX10 : Hid (Blk w10 (b + 1) 28 #[.int .i64 2, .int .i64 t, .bool false, .int .i64 0, .int .i64 0, .int .i64 0, .int .i64 0, .int .i64 0, .int .i64 0, .slice none 0 0, .int .i64 0, .int .i64 0, .int .i64 0, .string ⟨#[]⟩]) := Lib.hid (hw10 ▸ HX9.out.put 1 (.int .i64 t) rfl)
          have HB10 := Lib.hid (hw10 ▸ HB9.out.setCell (p := ⟨b + 1, 1, none⟩) (by show b ≤ b + 1; omega) (.int .i64 t))
          rw [hw10]
          clear hw10 HR9 HX9 HB9 c0 fr
          refine (HN1.out b w10 HR10.out).mono ?_
          rintro en w11 ⟨z1, rfl, hz1, hr11, hg11⟩
          have HR11 := Lib.hid hr11; clear hr11
          have Hz1 := Lib.hid hz1; clear hz1
          have HX11 := Lib.hid (HX10.out.grown hg11 (by simp))
          have HB11 := Lib.hid (HB10.out.grown hg11 (Nat.le_of_lt (Rd.lt HR10.out)) (fun g e => by cases e; exact Nat.le_refl _))
          clear hg11 HR10 HX10 HB10 HN1
          have c0 := HX11.out.cell 2
          have fr := HX11.out.frozen
          go_wp2_with fail
          obtain ⟨w12, hw12⟩ : ∃ w12, w11.setCell ⟨b + 1, 2, none⟩ (.bool (z1 == 1)) = w12 := ⟨_, rfl⟩
          have HR12 := Lib.hid (hw12 ▸ Rs.far HR11.out (show b ≠ b + 1 by omega) (.bool (z1 == 1)) (i := 2))
          have HX12 : Hid (Blk w12 (b + 1) 28 #[.int .i64 2, .int .i64 t, .bool (z1 == 1), .int .i64 0, .int .i64 0, .int .i64 0, .int .i64 0, .int .i64 0, .int .i64 0, .slice none 0 0, .int .i64 0, .int .i64 0, .int .i64 0, .string ⟨#[]⟩]) := Lib.hid (hw12 ▸ HX11.out.put 2 (.bool (z1 == 1)) rfl)
          have HB12 := Lib.hid (hw12 ▸ HB11.out.setCell (p := ⟨b + 1, 2, none⟩) (by show b ≤ b + 1; omega) (.bool (z1 == 1)))
          rw [hw12]
          clear hw12 HR11 HX11 HB11 c0 fr
          refine (HN2.out b w12 HR12.out).mono ?_
          rintro en w13 ⟨z2, rfl, hz2, hr13, hg13⟩
          have HR13 := Lib.hid hr13; clear hr13
          have Hz2 := Lib.hid hz2; clear hz2
          have HX13 := Lib.hid (HX12.out.grown hg13 (by simp))
          have HB13 := Lib.hid (HB12.out.grown hg13 (Nat.le_of_lt (Rd.lt HR12.out)) (fun g e => by cases e; exact Nat.le_refl _))
          clear hg13 HR12 HX12 HB12 HN2
          have c0 := HX13.out.cell 10
          have fr := HX13.out.frozen
          go_wp2_with fail
          obtain ⟨w14, hw14⟩ : ∃ w14, w13.setCell ⟨b + 1, 10, none⟩ (.int .i64 z2) = w14 := ⟨_, rfl⟩
          have HR14 := Lib.hid (hw14 ▸ Rs.far HR13.out (show b ≠ b + 1 by omega) (.int .i64 z2) (i := 10))
          have HX14 : Hid (Blk w14 (b + 1) 28 #[.int .i64 2, .int .i64 t, .bool (z1 == 1), .int .i64 0, .int .i64 0, .int .i64 0, .int .i64 0, .int .i64 0, .int .i64 0, .slice none 0 0, .int .i64 z2, .int .i64 0, .int .i64 0, .string ⟨#[]⟩]) := Lib.hid (hw14 ▸ HX13.out.put 10 (.int .i64 z2) rfl)
          have HB14 := Lib.hid (hw14 ▸ HB13.out.setCell (p := ⟨b + 1, 10, none⟩) (by show b ≤ b + 1; omega) (.int .i64 z2))
          rw [hw14]
          clear hw14 HR13 HX13 HB13 c0 fr
          refine (HN3.out b w14 HR14.out).mono ?_
          rintro en w15 ⟨z3, rfl, hz3, hr15, hg15⟩
          have HR15 := Lib.hid hr15; clear hr15
          have Hz3 := Lib.hid hz3; clear hz3
          have HX15 := Lib.hid (HX14.out.grown hg15 (by simp))
          have HB15 := Lib.hid (HB14.out.grown hg15 (Nat.le_of_lt (Rd.lt HR14.out)) (fun g e => by cases e; exact Nat.le_refl _))
          clear hg15 HR14 HX14 HB14 HN3
          have c0 := HX15.out.cell 11
          have fr := HX15.out.frozen
          go_wp2_with fail
          obtain ⟨w16, hw16⟩ : ∃ w16, w15.setCell ⟨b + 1, 11, none⟩ (.int .i64 z3) = w16 := ⟨_, rfl⟩
          have HR16 := Lib.hid (hw16 ▸ Rs.far HR15.out (show b ≠ b + 1 by omega) (.int .i64 z3) (i := 11))
          have HX16 : Hid (Blk w16 (b + 1) 28 #[.int .i64 2, .int .i64 t, .bool (z1 == 1), .int .i64 0, .int .i64 0, .int .i64 0, .int .i64 0, .int .i64 0, .int .i64 0, .slice none 0 0, .int .i64 z2, .int .i64 z3, .int .i64 0, .string ⟨#[]⟩]) := Lib.hid (hw16 ▸ HX15.out.put 11 (.int .i64 z3) rfl)
          have HB16 := Lib.hid (hw16 ▸ HB15.out.setCell (p := ⟨b + 1, 11, none⟩) (by show b ≤ b + 1; omega) (.int .i64 z3))
          rw [hw16]
          clear hw16 HR15 HX15 HB15 c0 fr
          refine (HN4.out b w16 HR16.out).mono ?_
          rintro en w17 ⟨z4, rfl, hz4, hr17, hg17⟩
          have HR17 := Lib.hid hr17; clear hr17
          have Hz4 := Lib.hid hz4; clear hz4
          have HX17 := Lib.hid (HX16.out.grown hg17 (by simp))
          have HB17 := Lib.hid (HB16.out.grown hg17 (Nat.le_of_lt (Rd.lt HR16.out)) (fun g e => by cases e; exact Nat.le_refl _))
          clear hg17 HR16 HX16 HB16 HN4
          have c0 := HX17.out.cell 12
          have fr := HX17.out.frozen
          go_upto_region 60 with (fail)
          obtain ⟨w18, hw18⟩ : ∃ w18, w17.setCell ⟨b + 1, 12, none⟩ (.int .i64 z4) = w18 := ⟨_, rfl⟩
          have HR18 := Lib.hid (hw18 ▸ Rs.far HR17.out (show b ≠ b + 1 by omega) (.int .i64 z4) (i := 12))
          have HX18 : Hid (Blk w18 (b + 1) 28 #[.int .i64 2, .int .i64 t, .bool (z1 == 1), .int .i64 0, .int .i64 0, .int .i64 0, .int .i64 0, .int .i64 0, .int .i64 0, .slice none 0 0, .int .i64 z2, .int .i64 z3, .int .i64 z4, .string ⟨#[]⟩]) := Lib.hid (hw18 ▸ HX17.out.put 12 (.int .i64 z4) rfl)
          have HB18 := Lib.hid (hw18 ▸ HB17.out.setCell (p := ⟨b + 1, 12, none⟩) (by show b ≤ b + 1; omega) (.int .i64 z4))
          rw [hw18]
          clear hw18 HR17 HX17 HB17 c0 fr
          have HQ : Hid ((Plain.endSt (Plain.chan4 s k (Plain.stT s k))).er = 0 → (#[.int .i64 2, .int .i64 t, .bool (z1 == 1), .int .i64 0, .int .i64 0, .int .i64 0, .int .i64 0, .int .i64 0, .int .i64 0, .slice none 0 0, .int .i64 z2, .int .i64 z3, .int .i64 z4, .string ⟨#[]⟩] : Array Value) = snCells (Plain.bodySn s k 2) (.slice none 0 0)) := Lib.hid (by
            intro h
            have h4 := Plain.endSt_er h
            have h3 := Plain.num_er h4
            have h2 := Plain.num_er h3
            have h1 := Plain.num_er h2
            have hT := Plain.num_er h1
            rw [Ht.out hT, Hz1.out h1, Hz2.out h2, Hz3.out h3, Hz4.out h4]
            rfl)
          clear Ht Hz1 Hz2 Hz3 Hz4
          obtain ⟨st, hst⟩ : ∃ st, Plain.chan4 s k (Plain.stT s k) = st := ⟨_, rfl⟩
          have HST := Lib.hid ((Plain.bodySt_2 s k).trans hst)
          have hr := HR18.out
          rw [hst] at hr HQ 
          clear HR18 hst
          have HR18 := Lib.hid hr; clear hr
          by_cases hmo : st.more = true
          · have e3 := (Rd.cells HR18.out).2.2.2.1
            have e1 := (Rd.cells HR18.out).2.1
            rw [hmo] at e3
            go_wp2_with fail
            refine (rfail_st b 78 s k st #[] w18 11 st.pos HR18.out).mono ?_
            rintro en w19 ⟨rfl, hr19, hg19⟩
            have he1 : Plain.endSt st = Plain.failSt st 11 st.pos := if_pos hmo
            rw [← he1] at hr19
            have HR19 := Lib.hid hr19; clear hr19 e1 e3
            have HB19 := Lib.hid (HB18.out.grown hg19 (Nat.le_of_lt (Rd.lt HR18.out)) (fun g e => by cases e; exact Nat.le_refl _))
            have hne0 : (Plain.endSt st).er ≠ 0 := by rw [he1]; exact fun h => Plain.fail_er (by decide) h
            have HFE := Lib.hid (Plain.fieldsP_er (s := s) (e := k) (k := 2) (by rw [HST.out]; exact hne0))
            rw [HST.out] at HFE
            have HP1 := Lib.hid (HB1.out.below HB19.out (by omega))
            have HP2 := Lib.hid (HB2.out.below HB19.out (by omega))
            have HBW5 := Lib.hid (HBW.out.trans (HB19.out.mono (by omega)))
            have hlt5 := Rd.lt HR19.out
            have hs1 : w.heap.size < w19.heap.size := by omega
            have hs2 : w.heap.size + 1 < w19.heap.size := by omega
            obtain ⟨x0, x1, x2, x3, x4, x5, x6, x7, x8, x9, x10, x11, x12, x13⟩ := HP1.out.zeros
            have y0 := HP2.out.cell 0
            have y1 := HP2.out.cell 1
            have f1 := HP1.out.frozen
            have f2 := HP2.out.frozen
            have f3 := Rd.frozen HR19.out
            obtain ⟨e0, e1, e2, e3, e4, e5⟩ := Rd.cells HR19.out
            clear e0 e1 e2
            obtain ⟨er, her⟩ : ∃ er, (Plain.endSt st).er = er := ⟨_, rfl⟩
            obtain ⟨ea, hea⟩ : ∃ ea, (Plain.endSt st).ea = ea := ⟨_, rfl⟩
            rw [her] at e4 hne0
            rw [hea] at e5
            rw [her, hea] at HFE
            have hq : (er != 0) = true := by simpa using hne0
            clear HST HQ her hea hne0 he1 e3 hg19 HR18 HX18
            go_wp2_with fail
            go_region
            all_goals
              go_wp2_with fail
              obtain ⟨W, hW, hA, hC, hBB, -, -⟩ := set_all HP1.out rfl HP2.out (by omega) HBW5.out (Nat.le_refl _) (by omega) (.int .i64 0) (.int .i64 0) (.bool false) (.int .i64 0) (.int .i64 0) (.int .i64 0) (.int .i64 0) (.int .i64 0) (.int .i64 0) (.slice none 0 0) (.int .i64 0) (.int .i64 0) (.int .i64 0) (.string ⟨#[]⟩) (.int .i64 er) (.int .i64 ea)
              rw [hW, HFE.out]
              exact rparse_ret rfl rfl hA.drew hC.drew (World.ownsRow_nil _ _ _ _) hBB.drew
          · have he1 : Plain.endSt st = st := if_neg hmo
            have hmo' : st.more = false := by simpa using hmo
            have HP1 := Lib.hid (HB1.out.below HB18.out (by omega))
            have HP2 := Lib.hid (HB2.out.below HB18.out (by omega))
            have HBW5 := Lib.hid (HBW.out.trans (HB18.out.mono (by omega)))
            have hlt5 := Rd.lt HR18.out
            have hs1 : w.heap.size < w18.heap.size := by omega
            have hs2 : w.heap.size + 1 < w18.heap.size := by omega
            obtain ⟨x0, x1, x2, x3, x4, x5, x6, x7, x8, x9, x10, x11, x12, x13⟩ := HP1.out.zeros
            have y0 := HP2.out.cell 0
            have y1 := HP2.out.cell 1
            have f1 := HP1.out.frozen
            have f2 := HP2.out.frozen
            have f3 := Rd.frozen HR18.out
            obtain ⟨e0, e1, e2, e3, e4, e5⟩ := Rd.cells HR18.out
            clear e0 e1 e2
            rw [hmo'] at e3
            obtain ⟨er, her⟩ : ∃ er, st.er = er := ⟨_, rfl⟩
            obtain ⟨ea, hea⟩ : ∃ ea, st.ea = ea := ⟨_, rfl⟩
            rw [her] at e4
            rw [hea] at e5
            by_cases h0 : er = 0
            · have HF := Lib.hid (Plain.fieldsP_ok (s := s) (e := k) (k := 2) (by rw [HST.out, he1, her, h0]))
              rw [h0] at e4
              have hxx := HX18.out
              rw [HQ.out (by rw [he1, her, h0])] at hxx
              have hkk : (Plain.bodySn s k 2).kind = 2 := rfl
              have HPR : Hid ((Plain.bodySn s k 2).prns = []) := Lib.hid rfl
              generalize Plain.bodySn s k 2 = sn at *
              obtain ⟨z0, z1, z2, z3, z4, z5, z6, z7, z8, z9, z10, z11, z12, z13⟩ := Blk.cells14 hxx
              rw [hkk] at z0
              have HKK := Lib.hid hkk
              clear hkk hxx HQ HST her hea h0 he1 HX18
              go_wp2_with fail
              obtain ⟨W, hW, hA, hC, hBB, hsz, hoth⟩ := set_all HP1.out rfl HP2.out (by omega) HBW5.out (Nat.le_refl _) (by omega) (.int .i64 2) (.int .i64 sn.time) (.bool sn.ok) (.int .i64 sn.p0) (.int .i64 sn.p1) (.int .i64 sn.p2) (.int .i64 sn.l0) (.int .i64 sn.l1) (.int .i64 sn.l2) (.slice none 0 0) (.int .i64 sn.prn) (.int .i64 sn.lag) (.int .i64 sn.power) (.string sn.text) (.int .i64 0) (.int .i64 0)
              rw [hW, HF.out]
              have hA2 : Blk W w.heap.size 28 (snCells sn (.slice none 0 0)) := by unfold snCells; rw [HKK.out]; exact hA
              exact rparse_ret rfl rfl hA2 hC (by rw [HPR.out]; exact World.ownsRow_nil _ _ _ _) hBB
            · have hq : (er != 0) = true := by simpa using h0
              have HFE := Lib.hid (Plain.fieldsP_er (s := s) (e := k) (k := 2) (by rw [HST.out, he1, her]; exact h0))
              rw [HST.out, he1, her, hea] at HFE
              clear HST HQ her hea h0 he1 HX18
              go_wp2_with fail
              go_region
              all_goals
                go_wp2_with fail
                obtain ⟨W, hW, hA, hC, hBB, -, -⟩ := set_all HP1.out rfl HP2.out (by omega) HBW5.out (Nat.le_refl _) (by omega) (.int .i64 0) (.int .i64 0) (.bool false) (.int .i64 0) (.int .i64 0) (.int .i64 0) (.int .i64 0) (.int .i64 0) (.int .i64 0) (.slice none 0 0) (.int .i64 0) (.int .i64 0) (.int .i64 0) (.string ⟨#[]⟩) (.int .i64 er) (.int .i64 ea)
                rw [hW, HFE.out]
                exact rparse_ret rfl rfl hA.drew hC.drew (World.ownsRow_nil _ _ _ _) hBB.drew
end Go.Proofs.YteeekdffbcbamaaGreatDoor
