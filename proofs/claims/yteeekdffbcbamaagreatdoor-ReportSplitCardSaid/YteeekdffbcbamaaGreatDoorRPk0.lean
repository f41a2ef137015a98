/-
  WALKS: the reference's Parse, at another word.
-/
import Derived.Test.YteeekdffbcbamaaGreatDoorRPk
namespace Go.Proofs.YteeekdffbcbamaaGreatDoor
open Go.RowKit

set_option maxRecDepth 100000 in
set_option maxHeartbeats 4000000 in
theorem rp_k0 (s : ByteArray) (w : World) (h : s.size ≤ 500) (hd : s.data.toList.head? = some 36) (e : Nat) (he : Plain.starN s = e) (hx : 0 ≤ Plain.hexAt s (e + 1)) (hy : 0 ≤ Plain.hexAt s (e + 2)) (c1 : s.size ≤ e + 3) (hm : (Plain.sumN (s.extract 1 e).data.toList : Int) = 16 * Plain.hexAt s (e + 1) + Plain.hexAt s (e + 2)) (hW1 : (Plain.wordF s e).data.toList ≠ [70, 73, 88]) (hW2 : (Plain.wordF s e).data.toList ≠ [83, 65, 84]) (hW3 : (Plain.wordF s e).data.toList ≠ [84, 88, 84]) : Calls Tryz.prog 15 #[.string s] w (ParsePost w (Plain.fieldsP s e 0)) := by
  have h1' := Plain.hexAt_lt hx
  have h2' := Plain.hexAt_lt hy
  rw [Plain.hexAt_get h1', Plain.hexAt_get h2'] at hm
  have hE1 : 1 ≤ e := by rw [← he]; exact Plain.star_pos hd
  have HF1 := Lib.hid (fun b W (h : Rs W b 78 s e Plain.st0 #[]) => rfield_st b 78 s e Plain.st0 #[] W h (Plain.okSt_st0 hE1) (by omega) (by omega))
  rw [Plain.fldS_st0] at HF1
  change Hid (∀ b W, Rs W b 78 s e Plain.st0 #[] → Calls Tryz.prog 36 #[.pointer (some ⟨b, 0, none⟩)] W fun en w' => (∃ z : Int, en = .returned (.tuple #[.string (Plain.wordF s e), .int .i64 z]) ∧ ((Plain.stW s e).er = 0 → z = (1 : Nat))) ∧ Rs w' b 78 s e (Plain.stW s e) #[] ∧ W.grownBy w' (some b)) at HF1
  obtain ⟨Fw, hFw⟩ : ∃ Fw, Plain.wordF s e = Fw := ⟨_, rfl⟩
  rw [hFw] at HF1 hW1 hW2 hW3
  have HWL := Lib.hid (And.intro (ByteArray.toList_eq Fw ▸ hW1) (And.intro (ByteArray.toList_eq Fw ▸ hW2) (ByteArray.toList_eq Fw ▸ hW3)))
  clear hW1 hW2 hW3 hFw
  have h1 := Plain.hexAt_lt hx
  have h2 := Plain.hexAt_lt hy
  have he1 : 1 ≤ e := by rw [← he]; exact Plain.star_pos hd
  have hle := Plain.starN_le s
  rw [he] at hle
  have h0 : 0 < s.size := by
    have := Plain.len_size s
    cases hl : s.data.toList with
    | nil => rw [hl] at hd; cases hd
    | cons x r => rw [hl] at this; simp at this; omega
  have hc := head_at hd h0
  have hc2 : s[0].toNat < 256 := s[0].toNat_lt
  have h0' : (0 : Int) < s.size := by omega
  have q0 : ((s.size : Int) == 0) = false := beq_eq_false_iff_ne.2 (by omega)
  have q1 : ((s[0].toNat : Int) != 36) = false := by rw [bne_eq_false_iff_eq]; omega
  have HNE := Lib.hid (fun k (hk : k < s.size) (h : k < e) => star_ne hk (by rw [he]; exact h))
  have HAT := Lib.hid (fun (hk : e < s.size) => star_at he hk)
  clear hc hd he
  rw [Plain.hexAt_get h1] at hx
  rw [Plain.hexAt_get h2] at hy
  have HX := Lib.hid (fun W => rdigit_any s[e + 1] W)
  have hcx : s[e + 1].toNat < 256 := s[e + 1].toNat_lt
  have HXb := Lib.hid (fun W => rdigit_any s[e + 2] W)
  have hcxb : s[e + 2].toNat < 256 := s[e + 2].toNat_lt
  have hz15 := (Plain.hexZ_ge s[e + 1]).2
  have hy15 := (Plain.hexZ_ge s[e + 2]).2
  generalize Plain.hexZ s[e + 1] = z at hx HX hm hz15
  generalize Plain.hexZ s[e + 2] = y at hy HXb hm hy15
  obtain ⟨F, hF⟩ : ∃ F, s.extract 1 e = F := ⟨_, rfl⟩
  have hFs : F.size ≤ 1000000 := by rw [← hF, ByteArray.size_extract]; omega
  have HM := Lib.hid (fun W => rsum_any F W hFs)
  rw [hF] at hm
  have hsb := Plain.sumN_lt F.data.toList
  generalize Plain.sumN F.data.toList = m at hm HM hsb
  have HF := Lib.hid hF; clear hF
  obtain ⟨q, hq⟩ : ∃ q, 16 * z + y = q := ⟨_, rfl⟩
  have hq1 : 0 ≤ q ∧ q ≤ 255 := by omega
  rw [hq] at hm
  have HQ := Lib.hid hq; clear hq
  have w1' : IntKind.i64.wrap (16 * z) = 16 * z := IntWalk.i64_in _ (by omega)
  have HWQ := Lib.hid (show IntKind.i64.wrap (16 * z + y) = q by rw [HQ.out]; exact IntWalk.i64_in _ (by omega))
  have HW1 := Lib.hid w1'; clear w1'
  have c3 : ((m : Int) != q) = false := by rw [bne_eq_false_iff_eq]; exact hm
  clear hm
  go_enter Tryz.func15, Tryz.ntmps15
  go_wp2_with fail
  go_loop [4] (fun i => ∃ k : Nat, k ≤ e ∧ i = .int .i64 k) (fun i => e - (intOf i).toNat)
  case atStart => exact ⟨0, Nat.zero_le _, rfl⟩
  case round =>
    obtain ⟨k, hk, rfl⟩ := hrel
    by_cases hlt : k < e
    · have hks : k < s.size := by omega
      have hne := HNE.out k hks hlt
      have hkc : s[k].toNat < 256 := s[k].toNat_lt
      have q2 : ((s[k].toNat : Int) != 42) = true := by rw [bne_iff_ne]; omega
      clear hne
      go_wp2_with fail
      go_round
      case rel => exact ⟨k + 1, by omega, by go_num⟩
      case measure => simp [intOf]; omega
    · obtain rfl : k = e := by omega
      clear hk hlt
      have hat := HAT.out (by omega)
      have q2 : ((s[k].toNat : Int) != 42) = false := by rw [bne_eq_false_iff_eq]; omega
      have hkc : s[k].toNat < 256 := s[k].toNat_lt
      have q3 : ((k : Int) == s.size) = false := beq_eq_false_iff_ne.2 (by omega)
      clear hat
      go_wp2_with fail
      go_loop [5] (fun i => i = .int .i64 ((k : Int) + 1) ∨ i = .int .i64 ((k : Int) + 2) ∨ i = .int .i64 ((k : Int) + 3)) (fun i => k + 3 - (intOf i).toNat)
      case atStart => exact Or.inl rfl
      case round =>
        rcases hrel with rfl | rfl | rfl
        · go_wp2_with fail
          refine (HX.out _).mono ?_
          rintro en w1 ⟨rfl, rfl⟩
          go_wp2_with fail
          go_round
          case rel => exact Or.inr (Or.inl (by go_num))
          case measure => simp [intOf]; omega
        · go_wp2_with fail
          refine (HXb.out _).mono ?_
          rintro en w1 ⟨rfl, rfl⟩
          go_wp2_with fail
          go_round
          case rel => exact Or.inr (Or.inr (by go_num))
          case measure => simp [intOf]; omega
        · have a1 : IntKind.i64.wrap ((k : Int) + 1) = (k : Int) + 1 := IntWalk.i64_in _ (by omega)
          have a2 : IntKind.i64.wrap ((k : Int) + 2) = (k : Int) + 2 := IntWalk.i64_in _ (by omega)
          have b1 : ((k : Int) + 1).toNat = k + 1 := by omega
          have b2 : ((k : Int) + 2).toNat = k + 2 := by omega
          have d1 : (k : Int) + 1 < s.size := by omega
          have d2 : (k : Int) + 2 < s.size := by omega
          have e1 : (1 : Int) ≤ k := by omega
          have e2 : (k : Int) ≤ s.size := by omega
          have f1 : (0 : Int) ≤ (k : Int) + 1 := by omega
          have f2 : (0 : Int) ≤ (k : Int) + 2 := by omega
          have w1 := HW1.out
          have w2 := HWQ.out
          have w3 := HF.out
          go_wp2_with fail
          go_quiet ((first | (go_at_call 18; with_reducible exact qleft (HM.out _)) | (go_at_call 35; with_reducible exact qleft (HX.out _)) | (go_at_call 35; with_reducible exact qleft (HXb.out _))))
          clear w1 w2 w3
          obtain ⟨w5, hw5⟩ : ∃ w5, ((w.alloc (.cells #[.int .i64 0, .int .i64 0, .bool false, .int .i64 0, .int .i64 0, .int .i64 0, .int .i64 0, .int .i64 0, .int .i64 0, .slice none 0 0, .int .i64 0, .int .i64 0, .int .i64 0, .string ⟨#[]⟩] 28)).alloc (.cells #[.int .i64 0, .int .i64 0] 39)).drewN nq = w5 := ⟨_, rfl⟩
          have hb1 : Blk w5 w.heap.size 28 zeroX := hw5 ▸ Blk.alloc (heap_alloc_new w _) _
          have hb2 : Blk w5 (w.heap.size + 1) 39 #[.int .i64 0, .int .i64 0] := hw5 ▸ heap_new_at (w.alloc _) _ _ (by simp)
          have hbw : Below w.heap.size w w5 := hw5 ▸ ⟨rfl, rfl, rfl, (((Below.refl _ _).alloc (Nat.le_refl _) (.cells #[.int .i64 0, .int .i64 0, .bool false, .int .i64 0, .int .i64 0, .int .i64 0, .int .i64 0, .int .i64 0, .int .i64 0, .slice none 0 0, .int .i64 0, .int .i64 0, .int .i64 0, .string ⟨#[]⟩] 28)).alloc (by simp) (.cells #[.int .i64 0, .int .i64 0] 39)).size, (((Below.refl _ _).alloc (Nat.le_refl _) (.cells #[.int .i64 0, .int .i64 0, .bool false, .int .i64 0, .int .i64 0, .int .i64 0, .int .i64 0, .int .i64 0, .int .i64 0, .slice none 0 0, .int .i64 0, .int .i64 0, .int .i64 0, .string ⟨#[]⟩] 28)).alloc (by simp) (.cells #[.int .i64 0, .int .i64 0] 39)).block⟩
          rw [hw5]
          have hl1 := hb1.lt
          have hl2 := hb2.lt
          have HB1 := Lib.hid hb1; clear hb1
          have HB2 := Lib.hid hb2; clear hb2
          have HBW := Lib.hid hbw; clear hbw hw5
          clear HX HXb HM HF HQ HWQ HW1 HNE HAT q0 q1 q2 q3 c3
          have q11 : (Fw.toList == [70, 73, 88]) = false := by have := HWL.out.1; simpa using this
          have q21 : (([70, 73, 88] : List UInt8) == Fw.toList) = false := by have := HWL.out.1; simpa using fun e => this e.symm
          have q12 : (Fw.toList == [83, 65, 84]) = false := by have := HWL.out.2.1; simpa using this
          have q22 : (([83, 65, 84] : List UInt8) == Fw.toList) = false := by have := HWL.out.2.1; simpa using fun e => this e.symm
          have q13 : (Fw.toList == [84, 88, 84]) = false := by have := HWL.out.2.2; simpa using this
          have q23 : (([84, 88, 84] : List UInt8) == Fw.toList) = false := by have := HWL.out.2.2; simpa using fun e => this e.symm
          obtain ⟨b, hb⟩ : ∃ b, w5.heap.size = b := ⟨_, rfl⟩
          rw [hb] at hl1 hl2
          go_wp2_with fail
          obtain ⟨w6, hw6⟩ : ∃ w6, (w5.alloc (.cells #[.string s, .int .i64 1, .int .i64 k, .bool true, .int .i64 0, .int .i64 0] 78)).alloc (.cells #[.int .i64 0, .int .i64 0, .bool false, .int .i64 0, .int .i64 0, .int .i64 0, .int .i64 0, .int .i64 0, .int .i64 0, .slice none 0 0, .int .i64 0, .int .i64 0, .int .i64 0, .string ⟨#[]⟩] 28) = w6 := ⟨_, rfl⟩
          have HR6 : Hid (Rs w6 b 78 s k Plain.st0 #[]) := Lib.hid (hw6 ▸ Rd.alloc (hb ▸ rrd_new w5 s k) _)
          have HX6 : Hid (Blk w6 (b + 1) 28 #[.int .i64 0, .int .i64 0, .bool false, .int .i64 0, .int .i64 0, .int .i64 0, .int .i64 0, .int .i64 0, .int .i64 0, .slice none 0 0, .int .i64 0, .int .i64 0, .int .i64 0, .string ⟨#[]⟩]) := Lib.hid (hw6 ▸ heap_new_at _ _ _ (by simp; omega))
          have HB6 : Hid (Below b w5 w6) := Lib.hid (hw6 ▸ (((Below.refl b w5).alloc (by omega) _).alloc (by simp; omega) _))
          rw [hw6]
          clear hw6
          have HBE := Lib.hid hb; clear hb
          refine (HF1.out b w6 HR6.out).mono ?_
          rintro en w7 ⟨⟨zf, rfl, -⟩, hr7, hg7⟩
          have HR7 := Lib.hid hr7; clear hr7
          have HX7 := Lib.hid (HX6.out.grown hg7 (by simp))
          have HB7 := Lib.hid (HB6.out.grown hg7 (Nat.le_of_lt (Rd.lt HR6.out)) (fun g e => by cases e; exact Nat.le_refl _))
          clear hg7 HR6 HX6 HB6 HF1
          have c0 := HX7.out.cell 0
          have fr := HX7.out.frozen
          go_wp2_with fail
          refine (rfail_st b 78 s k (Plain.stW s k) #[] w7 11 1 HR7.out).mono ?_
          rintro en w8 ⟨rfl, hr8, hg8⟩
          have HR8 := Lib.hid hr8; clear hr8
          have HX8 := Lib.hid (HX7.out.grown hg8 (by simp))
          have HB8 := Lib.hid (HB7.out.grown hg8 (Nat.le_of_lt (Rd.lt HR7.out)) (fun g e => by cases e; exact Nat.le_refl _))
          clear hg8 HR7 HX7 HB7 c0 fr
          go_upto_region 60 with (fail)
          have HQ : Hid ((Plain.endSt (Plain.failSt (Plain.stW s k) 11 1)).er = 0 → (#[.int .i64 0, .int .i64 0, .bool false, .int .i64 0, .int .i64 0, .int .i64 0, .int .i64 0, .int .i64 0, .int .i64 0, .slice none 0 0, .int .i64 0, .int .i64 0, .int .i64 0, .string ⟨#[]⟩] : Array Value) = snCells (Plain.bodySn s k 0) (.slice none 0 0)) := Lib.hid (by
            intro h
            exact absurd (Plain.endSt_er h) (fun h => Plain.fail_er (by decide) h))
          skip
          obtain ⟨st, hst⟩ : ∃ st, Plain.failSt (Plain.stW s k) 11 1 = st := ⟨_, rfl⟩
          have HST := Lib.hid ((Plain.bodySt_0 s k).trans hst)
          have hr := HR8.out
          rw [hst] at hr HQ 
          clear HR8 hst
          have HR8 := Lib.hid hr; clear hr
          by_cases hmo : st.more = true
          · have e3 := (Rd.cells HR8.out).2.2.2.1
            have e1 := (Rd.cells HR8.out).2.1
            rw [hmo] at e3
            go_wp2_with fail
            refine (rfail_st b 78 s k st #[] w8 11 st.pos HR8.out).mono ?_
            rintro en w9 ⟨rfl, hr9, hg9⟩
            have he1 : Plain.endSt st = Plain.failSt st 11 st.pos := if_pos hmo
            rw [← he1] at hr9
            have HR9 := Lib.hid hr9; clear hr9 e1 e3
            have HB9 := Lib.hid (HB8.out.grown hg9 (Nat.le_of_lt (Rd.lt HR8.out)) (fun g e => by cases e; exact Nat.le_refl _))
            have hne0 : (Plain.endSt st).er ≠ 0 := by rw [he1]; exact fun h => Plain.fail_er (by decide) h
            have HFE := Lib.hid (Plain.fieldsP_er (s := s) (e := k) (k := 0) (by rw [HST.out]; exact hne0))
            rw [HST.out] at HFE
            have HP1 := Lib.hid (HB1.out.below HB9.out (by omega))
            have HP2 := Lib.hid (HB2.out.below HB9.out (by omega))
            have HBW5 := Lib.hid (HBW.out.trans (HB9.out.mono (by omega)))
            have hlt5 := Rd.lt HR9.out
            have hs1 : w.heap.size < w9.heap.size := by omega
            have hs2 : w.heap.size + 1 < w9.heap.size := by omega
            obtain ⟨x0, x1, x2, x3, x4, x5, x6, x7, x8, x9, x10, x11, x12, x13⟩ := HP1.out.zeros
            have y0 := HP2.out.cell 0
            have y1 := HP2.out.cell 1
            have f1 := HP1.out.frozen
            have f2 := HP2.out.frozen
            have f3 := Rd.frozen HR9.out
            obtain ⟨e0, e1, e2, e3, e4, e5⟩ := Rd.cells HR9.out
            clear e0 e1 e2
            obtain ⟨er, her⟩ : ∃ er, (Plain.endSt st).er = er := ⟨_, rfl⟩
            obtain ⟨ea, hea⟩ : ∃ ea, (Plain.endSt st).ea = ea := ⟨_, rfl⟩
            rw [her] at e4 hne0
            rw [hea] at e5
            rw [her, hea] at HFE
            have hq : (er != 0) = true := by simpa using hne0
            clear HST HQ her hea hne0 he1 e3 hg9 HR8 HX8
            go_wp2_with fail
            go_region
            all_goals
              go_wp2_with fail
              obtain ⟨W, hW, hA, hC, hBB, -, -⟩ := set_all HP1.out rfl HP2.out (by omega) HBW5.out (Nat.le_refl _) (by omega) (.int .i64 0) (.int .i64 0) (.bool false) (.int .i64 0) (.int .i64 0) (.int .i64 0) (.int .i64 0) (.int .i64 0) (.int .i64 0) (.slice none 0 0) (.int .i64 0) (.int .i64 0) (.int .i64 0) (.string ⟨#[]⟩) (.int .i64 er) (.int .i64 ea)
              rw [hW, HFE.out]
              exact rparse_ret rfl rfl hA.drew hC.drew (World.ownsRow_nil _ _ _ _) hBB.drew
          · have he1 : Plain.endSt st = st := if_neg hmo
            have hmo' : st.more = false := by simpa using hmo
            have HP1 := Lib.hid (HB1.out.below HB8.out (by omega))
            have HP2 := Lib.hid (HB2.out.below HB8.out (by omega))
            have HBW5 := Lib.hid (HBW.out.trans (HB8.out.mono (by omega)))
            have hlt5 := Rd.lt HR8.out
            have hs1 : w.heap.size < w8.heap.size := by omega
            have hs2 : w.heap.size + 1 < w8.heap.size := by omega
            obtain ⟨x0, x1, x2, x3, x4, x5, x6, x7, x8, x9, x10, x11, x12, x13⟩ := HP1.out.zeros
            have y0 := HP2.out.cell 0
            have y1 := HP2.out.cell 1
            have f1 := HP1.out.frozen
            have f2 := HP2.out.frozen
            have f3 := Rd.frozen HR8.out
            obtain ⟨e0, e1, e2, e3, e4, e5⟩ := Rd.cells HR8.out
            clear e0 e1 e2
            rw [hmo'] at e3
            obtain ⟨er, her⟩ : ∃ er, st.er = er := ⟨_, rfl⟩
            obtain ⟨ea, hea⟩ : ∃ ea, st.ea = ea := ⟨_, rfl⟩
            rw [her] at e4
            rw [hea] at e5
            by_cases h0 : er = 0
            · have HF := Lib.hid (Plain.fieldsP_ok (s := s) (e := k) (k := 0) (by rw [HST.out, he1, her, h0]))
              rw [h0] at e4
              have hxx := HX8.out
              rw [HQ.out (by rw [he1, her, h0])] at hxx
              have hkk : (Plain.bodySn s k 0).kind = 0 := rfl
              have HPR : Hid ((Plain.bodySn s k 0).prns = []) := Lib.hid rfl
              generalize Plain.bodySn s k 0 = sn at *
              obtain ⟨z0, z1, z2, z3, z4, z5, z6, z7, z8, z9, z10, z11, z12, z13⟩ := Blk.cells14 hxx
              rw [hkk] at z0
              have HKK := Lib.hid hkk
              clear hkk hxx HQ HST her hea h0 he1 HX8
              go_wp2_with fail
              obtain ⟨W, hW, hA, hC, hBB, hsz, hoth⟩ := set_all HP1.out rfl HP2.out (by omega) HBW5.out (Nat.le_refl _) (by omega) (.int .i64 0) (.int .i64 sn.time) (.bool sn.ok) (.int .i64 sn.p0) (.int .i64 sn.p1) (.int .i64 sn.p2) (.int .i64 sn.l0) (.int .i64 sn.l1) (.int .i64 sn.l2) (.slice none 0 0) (.int .i64 sn.prn) (.int .i64 sn.lag) (.int .i64 sn.power) (.string sn.text) (.int .i64 0) (.int .i64 0)
              rw [hW, HF.out]
              have hA2 : Blk W w.heap.size 28 (snCells sn (.slice none 0 0)) := by unfold snCells; rw [HKK.out]; exact hA
              exact rparse_ret rfl rfl hA2 hC (by rw [HPR.out]; exact World.ownsRow_nil _ _ _ _) hBB
            · have hq : (er != 0) = true := by simpa using h0
              have HFE := Lib.hid (Plain.fieldsP_er (s := s) (e := k) (k := 0) (by rw [HST.out, he1, her]; exact h0))
              rw [HST.out, he1, her, hea] at HFE
              clear HST HQ her hea h0 he1 HX8
              go_wp2_with fail
              go_region
              all_goals
                go_wp2_with fail
                obtain ⟨W, hW, hA, hC, hBB, -, -⟩ := set_all HP1.out rfl HP2.out (by omega) HBW5.out (Nat.le_refl _) (by omega) (.int .i64 0) (.int .i64 0) (.bool false) (.int .i64 0) (.int .i64 0) (.int .i64 0) (.int .i64 0) (.int .i64 0) (.int .i64 0) (.slice none 0 0) (.int .i64 0) (.int .i64 0) (.int .i64 0) (.string ⟨#[]⟩) (.int .i64 er) (.int .i64 ea)
                rw [hW, HFE.out]
                exact rparse_ret rfl rfl hA.drew hC.drew (World.ownsRow_nil _ _ _ _) hBB.drew
end Go.Proofs.YteeekdffbcbamaaGreatDoor
