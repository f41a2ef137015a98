/-
  WALKS: the reference's Parse, at TXT.
-/
import Derived.Test.YteeekdffbcbamaaGreatDoorRPk
namespace Go.Proofs.YteeekdffbcbamaaGreatDoor
open Go.RowKit

set_option maxRecDepth 100000 in
set_option maxHeartbeats 4000000 in
theorem rp_k3 (s : ByteArray) (w : World) (h : s.size ≤ 500) (hd : s.data.toList.head? = some 36) (e : Nat) (he : Plain.starN s = e) (hx : 0 ≤ Plain.hexAt s (e + 1)) (hy : 0 ≤ Plain.hexAt s (e + 2)) (c1 : s.size ≤ e + 3) (hm : (Plain.sumN (s.extract 1 e).data.toList : Int) = 16 * Plain.hexAt s (e + 1) + Plain.hexAt s (e + 2)) (hW : (Plain.wordF s e).data.toList = [84, 88, 84]) : Calls Tryz.prog 15 #[.string s] w (ParsePost w (Plain.fieldsP s e 3)) := by
  have h1' := Plain.hexAt_lt hx
  have h2' := Plain.hexAt_lt hy
  rw [Plain.hexAt_get h1', Plain.hexAt_get h2'] at hm
  have hE1 : 1 ≤ e := by rw [← he]; exact Plain.star_pos hd
  have HF1 := Lib.hid (fun b W (h : Rs W b 78 s e Plain.st0 #[]) => rfield_st b 78 s e Plain.st0 #[] W h (Plain.okSt_st0 hE1) (by omega) (by omega))
  rw [Plain.fldS_st0] at HF1
  change Hid (∀ b W, Rs W b 78 s e Plain.st0 #[] → Calls Tryz.prog 36 #[.pointer (some ⟨b, 0, none⟩)] W fun en w' => (∃ z : Int, en = .returned (.tuple #[.string (Plain.wordF s e), .int .i64 z]) ∧ ((Plain.stW s e).er = 0 → z = (1 : Nat))) ∧ Rs w' b 78 s e (Plain.stW s e) #[] ∧ W.grownBy w' (some b)) at HF1
  obtain ⟨Fw, hFw⟩ : ∃ Fw, Plain.wordF s e = Fw := ⟨_, rfl⟩
  rw [hFw] at HF1 hW
  have hWl : Fw.toList = [84, 88, 84] := by rw [ByteArray.toList_eq]; exact hW
  have HWL := Lib.hid hWl; clear hWl hW hFw
  have HNT := Lib.hid (fun b W (h : Rs W b 78 s e (Plain.stW s e) #[]) => rnumber_st b 78 s e (Plain.stW s e) #[] W 0 604799999 2 h (Plain.okSt_W hE1) (by omega) (by omega) (by omega) (by omega) (by omega) (by omega))
  change Hid (∀ b W, Rs W b 78 s e (Plain.stW s e) #[] → Calls Tryz.prog 37 #[.pointer (some ⟨b, 0, none⟩), .int .i64 (0), .int .i64 604799999, .int .i64 2] W fun en w' => ∃ z, en = .returned (.int .i64 z) ∧ ((Plain.stT s e).er = 0 → z = Plain.numO s e (Plain.stW s e)) ∧ Rs w' b 78 s e (Plain.stT s e) #[] ∧ W.grownBy w' (some b)) at HNT
  have HOT := Lib.hid (Plain.okSt_T (s := s) hE1)
  have HFT := Lib.hid (fun b W (h : Rs W b 78 s e (Plain.stT s e) #[]) => rfield_st b 78 s e (Plain.stT s e) #[] W h (Plain.okSt_T hE1) (by omega) (by omega))
  have hGs := fld_size s e (Plain.stT s e) (by omega)
  have hts : Plain.textSt s e (Plain.stT s e) = if Plain.textE (Plain.fldS s e (Plain.stT s e)).data.toList = 0 then Plain.fldSt s e (Plain.stT s e) else Plain.failSt (Plain.fldSt s e (Plain.stT s e)) (Plain.textE (Plain.fldS s e (Plain.stT s e)).data.toList) (Plain.stT s e).pos := rfl
  obtain ⟨r, hr⟩ : ∃ r, Plain.textE (Plain.fldS s e (Plain.stT s e)).data.toList = r := ⟨_, rfl⟩
  have HTX := Lib.hid (fun W => rtext_any (Plain.fldS s e (Plain.stT s e)) W hGs r hr)
  rw [hr] at hts
  have hsn : Plain.bodySn s e 3 = ⟨3, Plain.numO s e (Plain.stW s e), false, 0, 0, 0, 0, 0, 0, [], 0, 0, 0, Plain.fldS s e (Plain.stT s e)⟩ := rfl
  have HSN := Lib.hid hsn; clear hsn
  obtain ⟨G, hG⟩ : ∃ G, Plain.fldS s e (Plain.stT s e) = G := ⟨_, rfl⟩
  rw [hG] at HFT HTX HSN
  have HTS := Lib.hid hts; clear hts hr hG hGs
  have h1 := Plain.hexAt_lt hx
  have h2 := Plain.hexAt_lt hy
  have he1 : 1 ≤ e := by rw [← he]; exact Plain.star_pos hd
  have hle := Plain.starN_le s
  rw [he] at hle
  have h0 : 0 < s.size := by
    have := Plain.len_size s
    cases hl : s.data.toList with
    | nil => rw [hl] at hd; cases hd
    | cons x r => rw [hl] at this; simp at this; omega
  have hc := head_at hd h0
  have hc2 : s[0].toNat < 256 := s[0].toNat_lt
  have h0' : (0 : Int) < s.size := by omega
  have q0 : ((s.size : Int) == 0) = false := beq_eq_false_iff_ne.2 (by omega)
  have q1 : ((s[0].toNat : Int) != 36) = false := by rw [bne_eq_false_iff_eq]; omega
  have HNE := Lib.hid (fun k (hk : k < s.size) (h : k < e) => star_ne hk (by rw [he]; exact h))
  have HAT := Lib.hid (fun (hk : e < s.size) => star_at he hk)
  clear hc hd he
  rw [Plain.hexAt_get h1] at hx
  rw [Plain.hexAt_get h2] at hy
  have HX := Lib.hid (fun W => rdigit_any s[e + 1] W)
  have hcx : s[e + 1].toNat < 256 := s[e + 1].toNat_lt
  have HXb := Lib.hid (fun W => rdigit_any s[e + 2] W)
  have hcxb : s[e + 2].toNat < 256 := s[e + 2].toNat_lt
  have hz15 := (Plain.hexZ_ge s[e + 1]).2
  have hy15 := (Plain.hexZ_ge s[e + 2]).2
  generalize Plain.hexZ s[e + 1] = z at hx HX hm hz15
  generalize Plain.hexZ s[e + 2] = y at hy HXb hm hy15
  obtain ⟨F, hF⟩ : ∃ F, s.extract 1 e = F := ⟨_, rfl⟩
  have hFs : F.size ≤ 1000000 := by rw [← hF, ByteArray.size_extract]; omega
  have HM := Lib.hid (fun W => rsum_any F W hFs)
  rw [hF] at hm
  have hsb := Plain.sumN_lt F.data.toList
  generalize Plain.sumN F.data.toList = m at hm HM hsb
  have HF := Lib.hid hF; clear hF
  obtain ⟨q, hq⟩ : ∃ q, 16 * z + y = q := ⟨_, rfl⟩
  have hq1 : 0 ≤ q ∧ q ≤ 255 := by omega
  rw [hq] at hm
  have HQ := Lib.hid hq; clear hq
  have w1' : IntKind.i64.wrap (16 * z) = 16 * z := IntWalk.i64_in _ (by omega)
  have HWQ := Lib.hid (show IntKind.i64.wrap (16 * z + y) = q by rw [HQ.out]; exact IntWalk.i64_in _ (by omega))
  have HW1 := Lib.hid w1'; clear w1'
  have c3 : ((m : Int) != q) = false := by rw [bne_eq_false_iff_eq]; exact hm
  clear hm
  go_enter Tryz.func15, Tryz.ntmps15
  go_wp2_with fail
  go_loop [4] (fun i => ∃ k : Nat, k ≤ e ∧ i = .int .i64 k) (fun i => e - (intOf i).toNat)
  case atStart => exact ⟨0, Nat.zero_le _, rfl⟩
  case round =>
    obtain ⟨k, hk, rfl⟩ := hrel
    by_cases hlt : k < e
    · have hks : k < s.size := by omega
      have hne := HNE.out k hks hlt
      have hkc : s[k].toNat < 256 := s[k].toNat_lt
      have q2 : ((s[k].toNat : Int) != 42) = true := by rw [bne_iff_ne]; omega
      clear hne
      go_wp2_with fail
      go_round
      case rel => exact ⟨k + 1, by omega, by go_num⟩
      case measure => simp [intOf]; omega
    · obtain rfl : k = e := by omega
      clear hk hlt
      have hat := HAT.out (by omega)
      have q2 : ((s[k].toNat : Int) != 42) = false := by rw [bne_eq_false_iff_eq]; omega
      have hkc : s[k].toNat < 256 := s[k].toNat_lt
      have q3 : ((k : Int) == s.size) = false := beq_eq_false_iff_ne.2 (by omega)
      clear hat
      go_wp2_with fail
      go_loop [5] (fun i => i = .int .i64 ((k : Int) + 1) ∨ i = .int .i64 ((k : Int) + 2) ∨ i = .int .i64 ((k : Int) + 3)) (fun i => k + 3 - (intOf i).toNat)
      case atStart => exact Or.inl rfl
      case round =>
        rcases hrel with rfl | rfl | rfl
        · go_wp2_with fail
          refine (HX.out _).mono ?_
          rintro en w1 ⟨rfl, rfl⟩
          go_wp2_with fail
          go_round
          case rel => exact Or.inr (Or.inl (by go_num))
          case measure => simp [intOf]; omega
        · go_wp2_with fail
          refine (HXb.out _).mono ?_
          rintro en w1 ⟨rfl, rfl⟩
          go_wp2_with fail
          go_round
          case rel => exact Or.inr (Or.inr (by go_num))
          case measure => simp [intOf]; omega
        · have a1 : IntKind.i64.wrap ((k : Int) + 1) = (k : Int) + 1 := IntWalk.i64_in _ (by omega)
          have a2 : IntKind.i64.wrap ((k : Int) + 2) = (k : Int) + 2 := IntWalk.i64_in _ (by omega)
          have b1 : ((k : Int) + 1).toNat = k + 1 := by omega
          have b2 : ((k : Int) + 2).toNat = k + 2 := by omega
          have d1 : (k : Int) + 1 < s.size := by omega
          have d2 : (k : Int) + 2 < s.size := by omega
          have e1 : (1 : Int) ≤ k := by omega
          have e2 : (k : Int) ≤ s.size := by omega
          have f1 : (0 : Int) ≤ (k : Int) + 1 := by omega
          have f2 : (0 : Int) ≤ (k : Int) + 2 := by omega
          have w1 := HW1.out
          have w2 := HWQ.out
          have w3 := HF.out
          go_wp2_with fail
          go_quiet ((first | (go_at_call 18; with_reducible exact qleft (HM.out _)) | (go_at_call 35; with_reducible exact qleft (HX.out _)) | (go_at_call 35; with_reducible exact qleft (HXb.out _))))
          clear w1 w2 w3
          obtain ⟨w5, hw5⟩ : ∃ w5, ((w.alloc (.cells #[.int .i64 0, .int .i64 0, .bool false, .int .i64 0, .int .i64 0, .int .i64 0, .int .i64 0, .int .i64 0, .int .i64 0, .slice none 0 0, .int .i64 0, .int .i64 0, .int .i64 0, .string ⟨#[]⟩] 28)).alloc (.cells #[.int .i64 0, .int .i64 0] 39)).drewN nq = w5 := ⟨_, rfl⟩
          have hb1 : Blk w5 w.heap.size 28 zeroX := hw5 ▸ Blk.alloc (heap_alloc_new w _) _
          have hb2 : Blk w5 (w.heap.size + 1) 39 #[.int .i64 0, .int .i64 0] := hw5 ▸ heap_new_at (w.alloc _) _ _ (by simp)
          have hbw : Below w.heap.size w w5 := hw5 ▸ ⟨rfl, rfl, rfl, (((Below.refl _ _).alloc (Nat.le_refl _) (.cells #[.int .i64 0, .int .i64 0, .bool false, .int .i64 0, .int .i64 0, .int .i64 0, .int .i64 0, .int .i64 0, .int .i64 0, .slice none 0 0, .int .i64 0, .int .i64 0, .int .i64 0, .string ⟨#[]⟩] 28)).alloc (by simp) (.cells #[.int .i64 0, .int .i64 0] 39)).size, (((Below.refl _ _).alloc (Nat.le_refl _) (.cells #[.int .i64 0, .int .i64 0, .bool false, .int .i64 0, .int .i64 0, .int .i64 0, .int .i64 0, .int .i64 0, .int .i64 0, .slice none 0 0, .int .i64 0, .int .i64 0, .int .i64 0, .string ⟨#[]⟩] 28)).alloc (by simp) (.cells #[.int .i64 0, .int .i64 0] 39)).block⟩
          rw [hw5]
          have hl1 := hb1.lt
          have hl2 := hb2.lt
          have HB1 := Lib.hid hb1; clear hb1
          have HB2 := Lib.hid hb2; clear hb2
          have HBW := Lib.hid hbw; clear hbw hw5
          clear HX HXb HM HF HQ HWQ HW1 HNE HAT q0 q1 q2 q3 c3
          have q11 : (Fw.toList == [70, 73, 88]) = false := by rw [HWL.out]; rfl
          have q21 : (([70, 73, 88] : List UInt8) == Fw.toList) = false := by rw [HWL.out]; rfl
          have q12 : (Fw.toList == [83, 65, 84]) = false := by rw [HWL.out]; rfl
          have q22 : (([83, 65, 84] : List UInt8) == Fw.toList) = false := by rw [HWL.out]; rfl
          have q13 : (Fw.toList == [84, 88, 84]) = true := by rw [HWL.out]; rfl
          have q23 : (([84, 88, 84] : List UInt8) == Fw.toList) = true := by rw [HWL.out]; rfl
          obtain ⟨b, hb⟩ : ∃ b, w5.heap.size = b := ⟨_, rfl⟩
          rw [hb] at hl1 hl2
          go_wp2_with fail
          obtain ⟨w6, hw6⟩ : ∃ w6, (w5.alloc (.cells #[.string s, .int .i64 1, .int .i64 k, .bool true, .int .i64 0, .int .i64 0] 78)).alloc (.cells #[.int .i64 0, .int .i64 0, .bool false, .int .i64 0, .int .i64 0, .int .i64 0, .int .i64 0, .int .i64 0, .int .i64 0, .slice none 0 0, .int .i64 0, .int .i64 0, .int .i64 0, .string ⟨#[]⟩] 28) = w6 := ⟨_, rfl⟩
          have HR6 : Hid (Rs w6 b 78 s k Plain.st0 #[]) := Lib.hid (hw6 ▸ Rd.alloc (hb ▸ rrd_new w5 s k) _)
          have HX6 : Hid (Blk w6 (b + 1) 28 #[.int .i64 0, .int .i64 0, .bool false, .int .i64 0, .int .i64 0, .int .i64 0, .int .i64 0, .int .i64 0, .int .i64 0, .slice none 0 0, .int .i64 0, .int .i64 0, .int .i64 0, .string ⟨#[]⟩]) := Lib.hid (hw6 ▸ heap_new_at _ _ _ (by simp; omega))
          have HB6 : Hid (Below b w5 w6) := Lib.hid (hw6 ▸ (((Below.refl b w5).alloc (by omega) _).alloc (by simp; omega) _))
          rw [hw6]
          clear hw6
          have HBE := Lib.hid hb; clear hb
          refine (HF1.out b w6 HR6.out).mono ?_
          rintro en w7 ⟨⟨zf, rfl, -⟩, hr7, hg7⟩
          have HR7 := Lib.hid hr7; clear hr7
          have HX7 := Lib.hid (HX6.out.grown hg7 (by simp))
          have HB7 := Lib.hid (HB6.out.grown hg7 (Nat.le_of_lt (Rd.lt HR6.out)) (fun g e => by cases e; exact Nat.le_refl _))
          clear hg7 HR6 HX6 HB6 HF1
          have c0 := HX7.out.cell 0
          have fr := HX7.out.frozen
          go_wp2_with fail
          obtain ⟨w8, hw8⟩ : ∃ w8, w7.setCell ⟨b + 1, 0, none⟩ (.int .i64 3) = w8 := ⟨_, rfl⟩
          have HR8 := Lib.hid (hw8 ▸ Rs.far HR7.out (show b ≠ b + 1 by omega) (.int .i64 3) (i := 0))
          have HX8 : Hid (Blk w8 (b + 1) 28 #[.int .i64 3, .int .i64 0, .bool false, .int .i64 0, .int .i64 0, .int .i64 0, .int .i64 0, .int .i64 0, .int .i64 0, .slice none 0 0, .int .i64 0, .int .i64 0, .int .i64 0, .string ⟨#[]⟩]) := Lib.hid (hw8 ▸ HX7.out.put 0 (.int .i64 3) rfl)
          have HB8 := Lib.hid (hw8 ▸ HB7.out.setCell (p := ⟨b + 1, 0, none⟩) (by show b ≤ b + 1; omega) (.int .i64 3))
          rw [hw8]
          clear hw8 HR7 HX7 HB7 c0 fr
          refine (HNT.out b w8 HR8.out).mono ?_
          rintro en w9 ⟨t, rfl, ht, hr9, hg9⟩
          have HR9 := Lib.hid hr9; clear hr9
          have Ht := Lib.hid ht; clear ht
          have HX9 := Lib.hid (HX8.out.grown hg9 (by simp))
          have HB9 := Lib.hid (HB8.out.grown hg9 (Nat.le_of_lt (Rd.lt HR8.out)) (fun g e => by cases e; exact Nat.le_refl _))
          clear hg9 HR8 HX8 HB8 HNT
          have c0 := HX9.out.cell 1
          have fr := HX9.out.frozen
          go_wp2_with fail
          obtain ⟨w10, hw10⟩ : ∃ w10, w9.setCell ⟨b + 1, 1, none⟩ (.int .i64 t) = w10 := ⟨_, rfl⟩
          have HR10 := Lib.hid (hw10 ▸ Rs.far HR9.out (show b ≠ b + 1 by omega) (.int .i64 t) (i := 1))
          have HX10 : Hid (Blk w10 (b + 1) 28 #[.int .i64 3, .int .i64 t, .bool false, .int .i64 0, .int .i64 0, .int .i64 0, .int .i64 0, .int .i64 0, .int .i64 0, .slice none 0 0, .int .i64 0, .int .i64 0, .int .i64 0, .string ⟨#[]⟩]) := Lib.hid (hw10 ▸ HX9.out.put 1 (.int .i64 t) rfl)
          have HB10 := Lib.hid (hw10 ▸ HB9.out.setCell (p := ⟨b + 1, 1, none⟩) (by show b ≤ b + 1; omega) (.int .i64 t))
          rw [hw10]
          clear hw10 HR9 HX9 HB9 c0 fr
          refine (HFT.out b w10 HR10.out).mono ?_
          rintro en w11 ⟨⟨zf2, rfl, hzf2⟩, hr11, hg11⟩
          have HR11 := Lib.hid hr11; clear hr11
          have HX11 := Lib.hid (HX10.out.grown hg11 (by simp))
          have HB11 := Lib.hid (HB10.out.grown hg11 (Nat.le_of_lt (Rd.lt HR10.out)) (fun g e => by cases e; exact Nat.le_refl _))
          have HZF := Lib.hid hzf2; clear hzf2
          clear hg11 HR10 HX10 HB10 HFT
          go_wp2_with fail
          refine (HTX.out w11).mono ?_
          rintro en wj ⟨rfl, rfl⟩
          clear HTX
          have c0 := HX11.out.cell 13
          have fr := HX11.out.frozen
          have e4 := (Rd.cells HR11.out).2.2.2.2.1
          obtain ⟨er1, her1⟩ : ∃ er1, (Plain.fldSt s k (Plain.stT s k)).er = er1 := ⟨_, rfl⟩
          rw [her1] at e4
          have HER := Lib.hid her1; clear her1
          by_cases hr0 : r = 0
          · have hts := HTS.out; rw [if_pos hr0] at hts
            have hr := HR11.out; rw [← hts] at hr
            have HR11 := Lib.hid hr; clear hr hts
            rw [hr0]
            go_upto_region 60 with (fail)
            obtain ⟨w12, hw12⟩ : ∃ w12, w11.setCell ⟨b + 1, 13, none⟩ (.string G) = w12 := ⟨_, rfl⟩
            have HR12 := Lib.hid (hw12 ▸ Rs.far HR11.out (show b ≠ b + 1 by omega) (.string G) (i := 13))
            have HX12 : Hid (Blk w12 (b + 1) 28 #[.int .i64 3, .int .i64 t, .bool false, .int .i64 0, .int .i64 0, .int .i64 0, .int .i64 0, .int .i64 0, .int .i64 0, .slice none 0 0, .int .i64 0, .int .i64 0, .int .i64 0, .string G]) := Lib.hid (hw12 ▸ HX11.out.put 13 (.string G) rfl)
            have HB12 := Lib.hid (hw12 ▸ HB11.out.setCell (p := ⟨b + 1, 13, none⟩) (by show b ≤ b + 1; omega) (.string G))
            rw [hw12]
            clear hw12 HR11 HX11 HB11 c0 fr
            have HQ : Hid ((Plain.endSt (Plain.textSt s k (Plain.stT s k))).er = 0 → (#[.int .i64 3, .int .i64 t, .bool false, .int .i64 0, .int .i64 0, .int .i64 0, .int .i64 0, .int .i64 0, .int .i64 0, .slice none 0 0, .int .i64 0, .int .i64 0, .int .i64 0, .string G] : Array Value) = snCells (Plain.bodySn s k 3) (.slice none 0 0)) := Lib.hid (by
              intro h
              have hT := Plain.text_er (Plain.endSt_er h)
              rw [Ht.out hT, HSN.out]
              rfl)
            clear Ht HZF HER HTS HSN
            obtain ⟨st, hst⟩ : ∃ st, Plain.textSt s k (Plain.stT s k) = st := ⟨_, rfl⟩
            have HST := Lib.hid ((Plain.bodySt_3 s k).trans hst)
            have hr := HR12.out
            rw [hst] at hr HQ 
            clear HR12 hst
            have HR12 := Lib.hid hr; clear hr
            by_cases hmo : st.more = true
            · have e3 := (Rd.cells HR12.out).2.2.2.1
              have e1 := (Rd.cells HR12.out).2.1
              rw [hmo] at e3
              go_wp2_with fail
              refine (rfail_st b 78 s k st #[] w12 11 st.pos HR12.out).mono ?_
              rintro en w13 ⟨rfl, hr13, hg13⟩
              have he1 : Plain.endSt st = Plain.failSt st 11 st.pos := if_pos hmo
              rw [← he1] at hr13
              have HR13 := Lib.hid hr13; clear hr13 e1 e3
              have HB13 := Lib.hid (HB12.out.grown hg13 (Nat.le_of_lt (Rd.lt HR12.out)) (fun g e => by cases e; exact Nat.le_refl _))
              have hne0 : (Plain.endSt st).er ≠ 0 := by rw [he1]; exact fun h => Plain.fail_er (by decide) h
              have HFE := Lib.hid (Plain.fieldsP_er (s := s) (e := k) (k := 3) (by rw [HST.out]; exact hne0))
              rw [HST.out] at HFE
              have HP1 := Lib.hid (HB1.out.below HB13.out (by omega))
              have HP2 := Lib.hid (HB2.out.below HB13.out (by omega))
              have HBW5 := Lib.hid (HBW.out.trans (HB13.out.mono (by omega)))
              have hlt5 := Rd.lt HR13.out
              have hs1 : w.heap.size < w13.heap.size := by omega
              have hs2 : w.heap.size + 1 < w13.heap.size := by omega
              obtain ⟨x0, x1, x2, x3, x4, x5, x6, x7, x8, x9, x10, x11, x12, x13⟩ := HP1.out.zeros
              have y0 := HP2.out.cell 0
              have y1 := HP2.out.cell 1
              have f1 := HP1.out.frozen
              have f2 := HP2.out.frozen
              have f3 := Rd.frozen HR13.out
              obtain ⟨e0, e1, e2, e3, e4, e5⟩ := Rd.cells HR13.out
              clear e0 e1 e2
              obtain ⟨er, her⟩ : ∃ er, (Plain.endSt st).er = er := ⟨_, rfl⟩
              obtain ⟨ea, hea⟩ : ∃ ea, (Plain.endSt st).ea = ea := ⟨_, rfl⟩
              rw [her] at e4 hne0
              rw [hea] at e5
              rw [her, hea] at HFE
              have hq : (er != 0) = true := by simpa using hne0
              clear HST HQ her hea hne0 he1 e3 hg13 HR12 HX12
              go_wp2_with fail
              go_region
              all_goals
                go_wp2_with fail
                obtain ⟨W, hW, hA, hC, hBB, -, -⟩ := set_all HP1.out rfl HP2.out (by omega) HBW5.out (Nat.le_refl _) (by omega) (.int .i64 0) (.int .i64 0) (.bool false) (.int .i64 0) (.int .i64 0) (.int .i64 0) (.int .i64 0) (.int .i64 0) (.int .i64 0) (.slice none 0 0) (.int .i64 0) (.int .i64 0) (.int .i64 0) (.string ⟨#[]⟩) (.int .i64 er) (.int .i64 ea)
                rw [hW, HFE.out]
                exact rparse_ret rfl rfl hA.drew hC.drew (World.ownsRow_nil _ _ _ _) hBB.drew
            · have he1 : Plain.endSt st = st := if_neg hmo
              have hmo' : st.more = false := by simpa using hmo
              have HP1 := Lib.hid (HB1.out.below HB12.out (by omega))
              have HP2 := Lib.hid (HB2.out.below HB12.out (by omega))
              have HBW5 := Lib.hid (HBW.out.trans (HB12.out.mono (by omega)))
              have hlt5 := Rd.lt HR12.out
              have hs1 : w.heap.size < w12.heap.size := by omega
              have hs2 : w.heap.size + 1 < w12.heap.size := by omega
              obtain ⟨x0, x1, x2, x3, x4, x5, x6, x7, x8, x9, x10, x11, x12, x13⟩ := HP1.out.zeros
              have y0 := HP2.out.cell 0
              have y1 := HP2.out.cell 1
              have f1 := HP1.out.frozen
              have f2 := HP2.out.frozen
              have f3 := Rd.frozen HR12.out
              obtain ⟨e0, e1, e2, e3, e4, e5⟩ := Rd.cells HR12.out
              clear e0 e1 e2
              rw [hmo'] at e3
              obtain ⟨er, her⟩ : ∃ er, st.er = er := ⟨_, rfl⟩
              obtain ⟨ea, hea⟩ : ∃ ea, st.ea = ea := ⟨_, rfl⟩
              rw [her] at e4
              rw [hea] at e5
              by_cases h0 : er = 0
              · have HF := Lib.hid (Plain.fieldsP_ok (s := s) (e := k) (k := 3) (by rw [HST.out, he1, her, h0]))
                rw [h0] at e4
                have hxx := HX12.out
                rw [HQ.out (by rw [he1, her, h0])] at hxx
                have hkk : (Plain.bodySn s k 3).kind = 3 := rfl
                have HPR : Hid ((Plain.bodySn s k 3).prns = []) := Lib.hid rfl
                generalize Plain.bodySn s k 3 = sn at *
                obtain ⟨z0, z1, z2, z3, z4, z5, z6, z7, z8, z9, z10, z11, z12, z13⟩ := Blk.cells14 hxx
                rw [hkk] at z0
                have HKK := Lib.hid hkk
                clear hkk hxx HQ HST her hea h0 he1 HX12
                go_wp2_with fail
                obtain ⟨W, hW, hA, hC, hBB, hsz, hoth⟩ := set_all HP1.out rfl HP2.out (by omega) HBW5.out (Nat.le_refl _) (by omega) (.int .i64 3) (.int .i64 sn.time) (.bool sn.ok) (.int .i64 sn.p0) (.int .i64 sn.p1) (.int .i64 sn.p2) (.int .i64 sn.l0) (.int .i64 sn.l1) (.int .i64 sn.l2) (.slice none 0 0) (.int .i64 sn.prn) (.int .i64 sn.lag) (.int .i64 sn.power) (.string sn.text) (.int .i64 0) (.int .i64 0)
                rw [hW, HF.out]
                have hA2 : Blk W w.heap.size 28 (snCells sn (.slice none 0 0)) := by unfold snCells; rw [HKK.out]; exact hA
                exact rparse_ret rfl rfl hA2 hC (by rw [HPR.out]; exact World.ownsRow_nil _ _ _ _) hBB
              · have hq : (er != 0) = true := by simpa using h0
                have HFE := Lib.hid (Plain.fieldsP_er (s := s) (e := k) (k := 3) (by rw [HST.out, he1, her]; exact h0))
                rw [HST.out, he1, her, hea] at HFE
                clear HST HQ her hea h0 he1 HX12
                go_wp2_with fail
                go_region
                all_goals
                  go_wp2_with fail
                  obtain ⟨W, hW, hA, hC, hBB, -, -⟩ := set_all HP1.out rfl HP2.out (by omega) HBW5.out (Nat.le_refl _) (by omega) (.int .i64 0) (.int .i64 0) (.bool false) (.int .i64 0) (.int .i64 0) (.int .i64 0) (.int .i64 0) (.int .i64 0) (.int .i64 0) (.slice none 0 0) (.int .i64 0) (.int .i64 0) (.int .i64 0) (.string ⟨#[]⟩) (.int .i64 er) (.int .i64 ea)
                  rw [hW, HFE.out]
                  exact rparse_ret rfl rfl hA.drew hC.drew (World.ownsRow_nil _ _ _ _) hBB.drew
          by_cases her0 : er1 = 0
          · have hts := HTS.out; rw [if_neg hr0] at hts
            have hq1 : (r != 0) = true := by simpa using hr0
            rw [her0] at e4
            go_wp2_with fail
            refine (rfail_st b 78 s k _ #[] w11 r zf2 HR11.out).mono ?_
            rintro en w12 ⟨rfl, hr12, hg12⟩
            rw [HZF.out (HER.out.trans her0), ← hts] at hr12
            have HR12 := Lib.hid hr12; clear hr12 hts e4
            have HX12 := Lib.hid (HX11.out.grown hg12 (by simp))
            have HB12 := Lib.hid (HB11.out.grown hg12 (Nat.le_of_lt (Rd.lt HR11.out)) (fun g e => by cases e; exact Nat.le_refl _))
            clear hg12 HR11 HX11 HB11 c0 fr
            have c0 := HX12.out.cell 13
            have fr := HX12.out.frozen
            go_upto_region 60 with (fail)
            obtain ⟨w13, hw13⟩ : ∃ w13, w12.setCell ⟨b + 1, 13, none⟩ (.string G) = w13 := ⟨_, rfl⟩
            have HR13 := Lib.hid (hw13 ▸ Rs.far HR12.out (show b ≠ b + 1 by omega) (.string G) (i := 13))
            have HX13 : Hid (Blk w13 (b + 1) 28 #[.int .i64 3, .int .i64 t, .bool false, .int .i64 0, .int .i64 0, .int .i64 0, .int .i64 0, .int .i64 0, .int .i64 0, .slice none 0 0, .int .i64 0, .int .i64 0, .int .i64 0, .string G]) := Lib.hid (hw13 ▸ HX12.out.put 13 (.string G) rfl)
            have HB13 := Lib.hid (hw13 ▸ HB12.out.setCell (p := ⟨b + 1, 13, none⟩) (by show b ≤ b + 1; omega) (.string G))
            rw [hw13]
            clear hw13 HR12 HX12 HB12 c0 fr
            have HQ : Hid ((Plain.endSt (Plain.textSt s k (Plain.stT s k))).er = 0 → (#[.int .i64 3, .int .i64 t, .bool false, .int .i64 0, .int .i64 0, .int .i64 0, .int .i64 0, .int .i64 0, .int .i64 0, .slice none 0 0, .int .i64 0, .int .i64 0, .int .i64 0, .string G] : Array Value) = snCells (Plain.bodySn s k 3) (.slice none 0 0)) := Lib.hid (by
              intro h
              exact absurd (Plain.endSt_er h) (by rw [HTS.out, if_neg hr0]; exact fun h => Plain.fail_er hr0 h))
            clear Ht HZF HER HTS HSN
            obtain ⟨st, hst⟩ : ∃ st, Plain.textSt s k (Plain.stT s k) = st := ⟨_, rfl⟩
            have HST := Lib.hid ((Plain.bodySt_3 s k).trans hst)
            have hr := HR13.out
            rw [hst] at hr HQ 
            clear HR13 hst
            have HR13 := Lib.hid hr; clear hr
            by_cases hmo : st.more = true
            · have e3 := (Rd.cells HR13.out).2.2.2.1
              have e1 := (Rd.cells HR13.out).2.1
              rw [hmo] at e3
              go_wp2_with fail
              refine (rfail_st b 78 s k st #[] w13 11 st.pos HR13.out).mono ?_
              rintro en w14 ⟨rfl, hr14, hg14⟩
              have he1 : Plain.endSt st = Plain.failSt st 11 st.pos := if_pos hmo
              rw [← he1] at hr14
              have HR14 := Lib.hid hr14; clear hr14 e1 e3
              have HB14 := Lib.hid (HB13.out.grown hg14 (Nat.le_of_lt (Rd.lt HR13.out)) (fun g e => by cases e; exact Nat.le_refl _))
              have hne0 : (Plain.endSt st).er ≠ 0 := by rw [he1]; exact fun h => Plain.fail_er (by decide) h
              have HFE := Lib.hid (Plain.fieldsP_er (s := s) (e := k) (k := 3) (by rw [HST.out]; exact hne0))
              rw [HST.out] at HFE
              have HP1 := Lib.hid (HB1.out.below HB14.out (by omega))
              have HP2 := Lib.hid (HB2.out.below HB14.out (by omega))
              have HBW5 := Lib.hid (HBW.out.trans (HB14.out.mono (by omega)))
              have hlt5 := Rd.lt HR14.out
              have hs1 : w.heap.size < w14.heap.size := by omega
              have hs2 : w.heap.size + 1 < w14.heap.size := by omega
              obtain ⟨x0, x1, x2, x3, x4, x5, x6, x7, x8, x9, x10, x11, x12, x13⟩ := HP1.out.zeros
              have y0 := HP2.out.cell 0
              have y1 := HP2.out.cell 1
              have f1 := HP1.out.frozen
              have f2 := HP2.out.frozen
              have f3 := Rd.frozen HR14.out
              obtain ⟨e0, e1, e2, e3, e4, e5⟩ := Rd.cells HR14.out
              clear e0 e1 e2
              obtain ⟨er, her⟩ : ∃ er, (Plain.endSt st).er = er := ⟨_, rfl⟩
              obtain ⟨ea, hea⟩ : ∃ ea, (Plain.endSt st).ea = ea := ⟨_, rfl⟩
              rw [her] at e4 hne0
              rw [hea] at e5
              rw [her, hea] at HFE
              have hq : (er != 0) = true := by simpa using hne0
              clear HST HQ her hea hne0 he1 e3 hg14 HR13 HX13
              go_wp2_with fail
              go_region
              all_goals
                go_wp2_with fail
                obtain ⟨W, hW, hA, hC, hBB, -, -⟩ := set_all HP1.out rfl HP2.out (by omega) HBW5.out (Nat.le_refl _) (by omega) (.int .i64 0) (.int .i64 0) (.bool false) (.int .i64 0) (.int .i64 0) (.int .i64 0) (.int .i64 0) (.int .i64 0) (.int .i64 0) (.slice none 0 0) (.int .i64 0) (.int .i64 0) (.int .i64 0) (.string ⟨#[]⟩) (.int .i64 er) (.int .i64 ea)
                rw [hW, HFE.out]
                exact rparse_ret rfl rfl hA.drew hC.drew (World.ownsRow_nil _ _ _ _) hBB.drew
            · have he1 : Plain.endSt st = st := if_neg hmo
              have hmo' : st.more = false := by simpa using hmo
              have HP1 := Lib.hid (HB1.out.below HB13.out (by omega))
              have HP2 := Lib.hid (HB2.out.below HB13.out (by omega))
              have HBW5 := Lib.hid (HBW.out.trans (HB13.out.mono (by omega)))
              have hlt5 := Rd.lt HR13.out
              have hs1 : w.heap.size < w13.heap.size := by omega
              have hs2 : w.heap.size + 1 < w13.heap.size := by omega
              obtain ⟨x0, x1, x2, x3, x4, x5, x6, x7, x8, x9, x10, x11, x12, x13⟩ := HP1.out.zeros
              have y0 := HP2.out.cell 0
              have y1 := HP2.out.cell 1
              have f1 := HP1.out.frozen
              have f2 := HP2.out.frozen
              have f3 := Rd.frozen HR13.out
              obtain ⟨e0, e1, e2, e3, e4, e5⟩ := Rd.cells HR13.out
              clear e0 e1 e2
              rw [hmo'] at e3
              obtain ⟨er, her⟩ : ∃ er, st.er = er := ⟨_, rfl⟩
              obtain ⟨ea, hea⟩ : ∃ ea, st.ea = ea := ⟨_, rfl⟩
              rw [her] at e4
              rw [hea] at e5
              by_cases h0 : er = 0
              · have HF := Lib.hid (Plain.fieldsP_ok (s := s) (e := k) (k := 3) (by rw [HST.out, he1, her, h0]))
                rw [h0] at e4
                have hxx := HX13.out
                rw [HQ.out (by rw [he1, her, h0])] at hxx
                have hkk : (Plain.bodySn s k 3).kind = 3 := rfl
                have HPR : Hid ((Plain.bodySn s k 3).prns = []) := Lib.hid rfl
                generalize Plain.bodySn s k 3 = sn at *
                obtain ⟨z0, z1, z2, z3, z4, z5, z6, z7, z8, z9, z10, z11, z12, z13⟩ := Blk.cells14 hxx
                rw [hkk] at z0
                have HKK := Lib.hid hkk
                clear hkk hxx HQ HST her hea h0 he1 HX13
                go_wp2_with fail
                obtain ⟨W, hW, hA, hC, hBB, hsz, hoth⟩ := set_all HP1.out rfl HP2.out (by omega) HBW5.out (Nat.le_refl _) (by omega) (.int .i64 3) (.int .i64 sn.time) (.bool sn.ok) (.int .i64 sn.p0) (.int .i64 sn.p1) (.int .i64 sn.p2) (.int .i64 sn.l0) (.int .i64 sn.l1) (.int .i64 sn.l2) (.slice none 0 0) (.int .i64 sn.prn) (.int .i64 sn.lag) (.int .i64 sn.power) (.string sn.text) (.int .i64 0) (.int .i64 0)
                rw [hW, HF.out]
                have hA2 : Blk W w.heap.size 28 (snCells sn (.slice none 0 0)) := by unfold snCells; rw [HKK.out]; exact hA
                exact rparse_ret rfl rfl hA2 hC (by rw [HPR.out]; exact World.ownsRow_nil _ _ _ _) hBB
              · have hq : (er != 0) = true := by simpa using h0
                have HFE := Lib.hid (Plain.fieldsP_er (s := s) (e := k) (k := 3) (by rw [HST.out, he1, her]; exact h0))
                rw [HST.out, he1, her, hea] at HFE
                clear HST HQ her hea h0 he1 HX13
                go_wp2_with fail
                go_region
                all_goals
                  go_wp2_with fail
                  obtain ⟨W, hW, hA, hC, hBB, -, -⟩ := set_all HP1.out rfl HP2.out (by omega) HBW5.out (Nat.le_refl _) (by omega) (.int .i64 0) (.int .i64 0) (.bool false) (.int .i64 0) (.int .i64 0) (.int .i64 0) (.int .i64 0) (.int .i64 0) (.int .i64 0) (.slice none 0 0) (.int .i64 0) (.int .i64 0) (.int .i64 0) (.string ⟨#[]⟩) (.int .i64 er) (.int .i64 ea)
                  rw [hW, HFE.out]
                  exact rparse_ret rfl rfl hA.drew hC.drew (World.ownsRow_nil _ _ _ _) hBB.drew
          · have hts := HTS.out; rw [if_neg hr0] at hts
            have hnf : Plain.failSt (Plain.fldSt s k (Plain.stT s k)) r (Plain.stT s k).pos = Plain.fldSt s k (Plain.stT s k) := if_pos (by rw [HER.out]; exact her0)
            rw [hnf] at hts
            have hr := HR11.out; rw [← hts] at hr
            have HR11 := Lib.hid hr; clear hr hts hnf
            have hq1 : (r != 0) = true := by simpa using hr0
            have hq2 : (er1 == 0) = false := by simpa using her0
            go_upto_region 60 with (fail)
            obtain ⟨w12, hw12⟩ : ∃ w12, w11.setCell ⟨b + 1, 13, none⟩ (.string G) = w12 := ⟨_, rfl⟩
            have HR12 := Lib.hid (hw12 ▸ Rs.far HR11.out (show b ≠ b + 1 by omega) (.string G) (i := 13))
            have HX12 : Hid (Blk w12 (b + 1) 28 #[.int .i64 3, .int .i64 t, .bool false, .int .i64 0, .int .i64 0, .int .i64 0, .int .i64 0, .int .i64 0, .int .i64 0, .slice none 0 0, .int .i64 0, .int .i64 0, .int .i64 0, .string G]) := Lib.hid (hw12 ▸ HX11.out.put 13 (.string G) rfl)
            have HB12 := Lib.hid (hw12 ▸ HB11.out.setCell (p := ⟨b + 1, 13, none⟩) (by show b ≤ b + 1; omega) (.string G))
            rw [hw12]
            clear hw12 HR11 HX11 HB11 c0 fr
            have HQ : Hid ((Plain.endSt (Plain.textSt s k (Plain.stT s k))).er = 0 → (#[.int .i64 3, .int .i64 t, .bool false, .int .i64 0, .int .i64 0, .int .i64 0, .int .i64 0, .int .i64 0, .int .i64 0, .slice none 0 0, .int .i64 0, .int .i64 0, .int .i64 0, .string G] : Array Value) = snCells (Plain.bodySn s k 3) (.slice none 0 0)) := Lib.hid (by
              intro h
              have hT := Plain.text_er (Plain.endSt_er h)
              rw [Ht.out hT, HSN.out]
              rfl)
            clear Ht HZF HER HTS HSN
            obtain ⟨st, hst⟩ : ∃ st, Plain.textSt s k (Plain.stT s k) = st := ⟨_, rfl⟩
            have HST := Lib.hid ((Plain.bodySt_3 s k).trans hst)
            have hr := HR12.out
            rw [hst] at hr HQ 
            clear HR12 hst
            have HR12 := Lib.hid hr; clear hr
            by_cases hmo : st.more = true
            · have e3 := (Rd.cells HR12.out).2.2.2.1
              have e1 := (Rd.cells HR12.out).2.1
              rw [hmo] at e3
              go_wp2_with fail
              refine (rfail_st b 78 s k st #[] w12 11 st.pos HR12.out).mono ?_
              rintro en w13 ⟨rfl, hr13, hg13⟩
              have he1 : Plain.endSt st = Plain.failSt st 11 st.pos := if_pos hmo
              rw [← he1] at hr13
              have HR13 := Lib.hid hr13; clear hr13 e1 e3
              have HB13 := Lib.hid (HB12.out.grown hg13 (Nat.le_of_lt (Rd.lt HR12.out)) (fun g e => by cases e; exact Nat.le_refl _))
              have hne0 : (Plain.endSt st).er ≠ 0 := by rw [he1]; exact fun h => Plain.fail_er (by decide) h
              have HFE := Lib.hid (Plain.fieldsP_er (s := s) (e := k) (k := 3) (by rw [HST.out]; exact hne0))
              rw [HST.out] at HFE
              have HP1 := Lib.hid (HB1.out.below HB13.out (by omega))
              have HP2 := Lib.hid (HB2.out.below HB13.out (by omega))
              have HBW5 := Lib.hid (HBW.out.trans (HB13.out.mono (by omega)))
              have hlt5 := Rd.lt HR13.out
              have hs1 : w.heap.size < w13.heap.size := by omega
              have hs2 : w.heap.size + 1 < w13.heap.size := by omega
              obtain ⟨x0, x1, x2, x3, x4, x5, x6, x7, x8, x9, x10, x11, x12, x13⟩ := HP1.out.zeros
              have y0 := HP2.out.cell 0
              have y1 := HP2.out.cell 1
              have f1 := HP1.out.frozen
              have f2 := HP2.out.frozen
              have f3 := Rd.frozen HR13.out
              obtain ⟨e0, e1, e2, e3, e4, e5⟩ := Rd.cells HR13.out
              clear e0 e1 e2
              obtain ⟨er, her⟩ : ∃ er, (Plain.endSt st).er = er := ⟨_, rfl⟩
              obtain ⟨ea, hea⟩ : ∃ ea, (Plain.endSt st).ea = ea := ⟨_, rfl⟩
              rw [her] at e4 hne0
              rw [hea] at e5
              rw [her, hea] at HFE
              have hq : (er != 0) = true := by simpa using hne0
              clear HST HQ her hea hne0 he1 e3 hg13 HR12 HX12
              go_wp2_with fail
              go_region
              all_goals
                go_wp2_with fail
                obtain ⟨W, hW, hA, hC, hBB, -, -⟩ := set_all HP1.out rfl HP2.out (by omega) HBW5.out (Nat.le_refl _) (by omega) (.int .i64 0) (.int .i64 0) (.bool false) (.int .i64 0) (.int .i64 0) (.int .i64 0) (.int .i64 0) (.int .i64 0) (.int .i64 0) (.slice none 0 0) (.int .i64 0) (.int .i64 0) (.int .i64 0) (.string ⟨#[]⟩) (.int .i64 er) (.int .i64 ea)
                rw [hW, HFE.out]
                exact rparse_ret rfl rfl hA.drew hC.drew (World.ownsRow_nil _ _ _ _) hBB.drew
            · have he1 : Plain.endSt st = st := if_neg hmo
              have hmo' : st.more = false := by simpa using hmo
              have HP1 := Lib.hid (HB1.out.below HB12.out (by omega))
              have HP2 := Lib.hid (HB2.out.below HB12.out (by omega))
              have HBW5 := Lib.hid (HBW.out.trans (HB12.out.mono (by omega)))
              have hlt5 := Rd.lt HR12.out
              have hs1 : w.heap.size < w12.heap.size := by omega
              have hs2 : w.heap.size + 1 < w12.heap.size := by omega
              obtain ⟨x0, x1, x2, x3, x4, x5, x6, x7, x8, x9, x10, x11, x12, x13⟩ := HP1.out.zeros
              have y0 := HP2.out.cell 0
              have y1 := HP2.out.cell 1
              have f1 := HP1.out.frozen
              have f2 := HP2.out.frozen
              have f3 := Rd.frozen HR12.out
              obtain ⟨e0, e1, e2, e3, e4, e5⟩ := Rd.cells HR12.out
              clear e0 e1 e2
              rw [hmo'] at e3
              obtain ⟨er, her⟩ : ∃ er, st.er = er := ⟨_, rfl⟩
              obtain ⟨ea, hea⟩ : ∃ ea, st.ea = ea := ⟨_, rfl⟩
              rw [her] at e4
              rw [hea] at e5
              by_cases h0 : er = 0
              · have HF := Lib.hid (Plain.fieldsP_ok (s := s) (e := k) (k := 3) (by rw [HST.out, he1, her, h0]))
                rw [h0] at e4
                have hxx := HX12.out
                rw [HQ.out (by rw [he1, her, h0])] at hxx
                have hkk : (Plain.bodySn s k 3).kind = 3 := rfl
                have HPR : Hid ((Plain.bodySn s k 3).prns = []) := Lib.hid rfl
                generalize Plain.bodySn s k 3 = sn at *
                obtain ⟨z0, z1, z2, z3, z4, z5, z6, z7, z8, z9, z10, z11, z12, z13⟩ := Blk.cells14 hxx
                rw [hkk] at z0
                have HKK := Lib.hid hkk
                clear hkk hxx HQ HST her hea h0 he1 HX12
                go_wp2_with fail
                obtain ⟨W, hW, hA, hC, hBB, hsz, hoth⟩ := set_all HP1.out rfl HP2.out (by omega) HBW5.out (Nat.le_refl _) (by omega) (.int .i64 3) (.int .i64 sn.time) (.bool sn.ok) (.int .i64 sn.p0) (.int .i64 sn.p1) (.int .i64 sn.p2) (.int .i64 sn.l0) (.int .i64 sn.l1) (.int .i64 sn.l2) (.slice none 0 0) (.int .i64 sn.prn) (.int .i64 sn.lag) (.int .i64 sn.power) (.string sn.text) (.int .i64 0) (.int .i64 0)
                rw [hW, HF.out]
                have hA2 : Blk W w.heap.size 28 (snCells sn (.slice none 0 0)) := by unfold snCells; rw [HKK.out]; exact hA
                exact rparse_ret rfl rfl hA2 hC (by rw [HPR.out]; exact World.ownsRow_nil _ _ _ _) hBB
              · have hq : (er != 0) = true := by simpa using h0
                have HFE := Lib.hid (Plain.fieldsP_er (s := s) (e := k) (k := 3) (by rw [HST.out, he1, her]; exact h0))
                rw [HST.out, he1, her, hea] at HFE
                clear HST HQ her hea h0 he1 HX12
                go_wp2_with fail
                go_region
                all_goals
                  go_wp2_with fail
                  obtain ⟨W, hW, hA, hC, hBB, -, -⟩ := set_all HP1.out rfl HP2.out (by omega) HBW5.out (Nat.le_refl _) (by omega) (.int .i64 0) (.int .i64 0) (.bool false) (.int .i64 0) (.int .i64 0) (.int .i64 0) (.int .i64 0) (.int .i64 0) (.int .i64 0) (.slice none 0 0) (.int .i64 0) (.int .i64 0) (.int .i64 0) (.string ⟨#[]⟩) (.int .i64 er) (.int .i64 ea)
                  rw [hW, HFE.out]
                  exact rparse_ret rfl rfl hA.drew hC.drew (World.ownsRow_nil _ _ _ _) hBB.drew
end Go.Proofs.YteeekdffbcbamaaGreatDoor
