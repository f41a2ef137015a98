/-
  WALKS: the reference's Parse, at FIX.
-/
import Derived.Test.YteeekdffbcbamaaGreatDoorRPk
import Derived.Test.YteeekdffbcbamaaGreatDoorRFix
namespace Go.Proofs.YteeekdffbcbamaaGreatDoor
open Go.RowKit

set_option maxRecDepth 100000 in
set_option maxHeartbeats 40000000 in
theorem rp_k1 (s : ByteArray) (w : World) (h : s.size ≤ 500) (hd : s.data.toList.head? = some 36) (e : Nat) (he : Plain.starN s = e) (hx : 0 ≤ Plain.hexAt s (e + 1)) (hy : 0 ≤ Plain.hexAt s (e + 2)) (c1 : s.size ≤ e + 3) (hm : (Plain.sumN (s.extract 1 e).data.toList : Int) = 16 * Plain.hexAt s (e + 1) + Plain.hexAt s (e + 2)) (hW : (Plain.wordF s e).data.toList = [70, 73, 88]) : Calls Tryz.prog 15 #[.string s] w (ParsePost w (Plain.fieldsP s e 1)) := by
  have h1' := Plain.hexAt_lt hx
  have h2' := Plain.hexAt_lt hy
  rw [Plain.hexAt_get h1', Plain.hexAt_get h2'] at hm
  have hE1 : 1 ≤ e := by rw [← he]; exact Plain.star_pos hd
  have HF1 := Lib.hid (fun b W (h : Rs W b 78 s e Plain.st0 #[]) => rfield_st b 78 s e Plain.st0 #[] W h (Plain.okSt_st0 hE1) (by omega) (by omega))
  rw [Plain.fldS_st0] at HF1
  change Hid (∀ b W, Rs W b 78 s e Plain.st0 #[] → Calls Tryz.prog 36 #[.pointer (some ⟨b, 0, none⟩)] W fun en w' => (∃ z : Int, en = .returned (.tuple #[.string (Plain.wordF s e), .int .i64 z]) ∧ ((Plain.stW s e).er = 0 → z = (1 : Nat))) ∧ Rs w' b 78 s e (Plain.stW s e) #[] ∧ W.grownBy w' (some b)) at HF1
  obtain ⟨Fw, hFw⟩ : ∃ Fw, Plain.wordF s e = Fw := ⟨_, rfl⟩
  rw [hFw] at HF1 hW
  have hWl : Fw.toList = [70, 73, 88] := by rw [ByteArray.toList_eq]; exact hW
  have HWL := Lib.hid hWl; clear hWl hW hFw
  have HNT := Lib.hid (fun b W (h : Rs W b 78 s e (Plain.stW s e) #[]) => rnumber_st b 78 s e (Plain.stW s e) #[] W 0 604799999 2 h (Plain.okSt_W hE1) (by omega) (by omega) (by omega) (by omega) (by omega) (by omega))
  change Hid (∀ b W, Rs W b 78 s e (Plain.stW s e) #[] → Calls Tryz.prog 37 #[.pointer (some ⟨b, 0, none⟩), .int .i64 (0), .int .i64 604799999, .int .i64 2] W fun en w' => ∃ z, en = .returned (.int .i64 z) ∧ ((Plain.stT s e).er = 0 → z = Plain.numO s e (Plain.stW s e)) ∧ Rs w' b 78 s e (Plain.stT s e) #[] ∧ W.grownBy w' (some b)) at HNT
  have HOT := Lib.hid (Plain.okSt_T (s := s) hE1)
  have HNF := Lib.hid (fun b j W lo hi wr hB h => rfix_num (b := b) (T := 78) (s := s) (e := e) (st := Plain.stT s e) (Plain.okSt_T hE1) (by omega) (by omega) j W lo hi wr hB h)
  have HNM := Lib.hid (fun b W st ok h => rnumber_st b 78 s e st #[] W 1 63 2 h ok (by omega) (by omega) (by omega) (by omega) (by omega) (by omega))
  have HI := Lib.hid (info_parts info3)
  have h1 := Plain.hexAt_lt hx
  have h2 := Plain.hexAt_lt hy
  have he1 : 1 ≤ e := by rw [← he]; exact Plain.star_pos hd
  have hle := Plain.starN_le s
  rw [he] at hle
  have h0 : 0 < s.size := by
    have := Plain.len_size s
    cases hl : s.data.toList with
    | nil => rw [hl] at hd; cases hd
    | cons x r => rw [hl] at this; simp at this; omega
  have hc := head_at hd h0
  have hc2 : s[0].toNat < 256 := s[0].toNat_lt
  have h0' : (0 : Int) < s.size := by omega
  have q0 : ((s.size : Int) == 0) = false := beq_eq_false_iff_ne.2 (by omega)
  have q1 : ((s[0].toNat : Int) != 36) = false := by rw [bne_eq_false_iff_eq]; omega
  have HNE := Lib.hid (fun k (hk : k < s.size) (h : k < e) => star_ne hk (by rw [he]; exact h))
  have HAT := Lib.hid (fun (hk : e < s.size) => star_at he hk)
  clear hc hd he
  rw [Plain.hexAt_get h1] at hx
  rw [Plain.hexAt_get h2] at hy
  have HX := Lib.hid (fun W => rdigit_any s[e + 1] W)
  have hcx : s[e + 1].toNat < 256 := s[e + 1].toNat_lt
  have HXb := Lib.hid (fun W => rdigit_any s[e + 2] W)
  have hcxb : s[e + 2].toNat < 256 := s[e + 2].toNat_lt
  have hz15 := (Plain.hexZ_ge s[e + 1]).2
  have hy15 := (Plain.hexZ_ge s[e + 2]).2
  generalize Plain.hexZ s[e + 1] = z at hx HX hm hz15
  generalize Plain.hexZ s[e + 2] = y at hy HXb hm hy15
  obtain ⟨F, hF⟩ : ∃ F, s.extract 1 e = F := ⟨_, rfl⟩
  have hFs : F.size ≤ 1000000 := by rw [← hF, ByteArray.size_extract]; omega
  have HM := Lib.hid (fun W => rsum_any F W hFs)
  rw [hF] at hm
  have hsb := Plain.sumN_lt F.data.toList
  generalize Plain.sumN F.data.toList = m at hm HM hsb
  have HF := Lib.hid hF; clear hF
  obtain ⟨q, hq⟩ : ∃ q, 16 * z + y = q := ⟨_, rfl⟩
  have hq1 : 0 ≤ q ∧ q ≤ 255 := by omega
  rw [hq] at hm
  have HQ := Lib.hid hq; clear hq
  have w1' : IntKind.i64.wrap (16 * z) = 16 * z := IntWalk.i64_in _ (by omega)
  have HWQ := Lib.hid (show IntKind.i64.wrap (16 * z + y) = q by rw [HQ.out]; exact IntWalk.i64_in _ (by omega))
  have HW1 := Lib.hid w1'; clear w1'
  have c3 : ((m : Int) != q) = false := by rw [bne_eq_false_iff_eq]; exact hm
  clear hm
  go_enter Tryz.func15, Tryz.ntmps15
  go_wp2_with fail
  go_loop [4] (fun i => ∃ k : Nat, k ≤ e ∧ i = .int .i64 k) (fun i => e - (intOf i).toNat)
  case atStart => exact ⟨0, Nat.zero_le _, rfl⟩
  case round =>
    obtain ⟨k, hk, rfl⟩ := hrel
    by_cases hlt : k < e
    · have hks : k < s.size := by omega
      have hne := HNE.out k hks hlt
      have hkc : s[k].toNat < 256 := s[k].toNat_lt
      have q2 : ((s[k].toNat : Int) != 42) = true := by rw [bne_iff_ne]; omega
      clear hne
      go_wp2_with fail
      go_round
      case rel => exact ⟨k + 1, by omega, by go_num⟩
      case measure => simp [intOf]; omega
    · obtain rfl : k = e := by omega
      clear hk hlt
      have hat := HAT.out (by omega)
      have q2 : ((s[k].toNat : Int) != 42) = false := by rw [bne_eq_false_iff_eq]; omega
      have hkc : s[k].toNat < 256 := s[k].toNat_lt
      have q3 : ((k : Int) == s.size) = false := beq_eq_false_iff_ne.2 (by omega)
      clear hat
      go_wp2_with fail
      go_loop [5] (fun i => i = .int .i64 ((k : Int) + 1) ∨ i = .int .i64 ((k : Int) + 2) ∨ i = .int .i64 ((k : Int) + 3)) (fun i => k + 3 - (intOf i).toNat)
      case atStart => exact Or.inl rfl
      case round =>
        rcases hrel with rfl | rfl | rfl
        · go_wp2_with fail
          refine (HX.out _).mono ?_
          rintro en w1 ⟨rfl, rfl⟩
          go_wp2_with fail
          go_round
          case rel => exact Or.inr (Or.inl (by go_num))
          case measure => simp [intOf]; omega
        · go_wp2_with fail
          refine (HXb.out _).mono ?_
          rintro en w1 ⟨rfl, rfl⟩
          go_wp2_with fail
          go_round
          case rel => exact Or.inr (Or.inr (by go_num))
          case measure => simp [intOf]; omega
        · have a1 : IntKind.i64.wrap ((k : Int) + 1) = (k : Int) + 1 := IntWalk.i64_in _ (by omega)
          have a2 : IntKind.i64.wrap ((k : Int) + 2) = (k : Int) + 2 := IntWalk.i64_in _ (by omega)
          have b1 : ((k : Int) + 1).toNat = k + 1 := by omega
          have b2 : ((k : Int) + 2).toNat = k + 2 := by omega
          have d1 : (k : Int) + 1 < s.size := by omega
          have d2 : (k : Int) + 2 < s.size := by omega
          have e1 : (1 : Int) ≤ k := by omega
          have e2 : (k : Int) ≤ s.size := by omega
          have f1 : (0 : Int) ≤ (k : Int) + 1 := by omega
          have f2 : (0 : Int) ≤ (k : Int) + 2 := by omega
          have w1 := HW1.out
          have w2 := HWQ.out
          have w3 := HF.out
          go_wp2_with fail
          go_quiet ((first | (go_at_call 18; with_reducible exact qleft (HM.out _)) | (go_at_call 35; with_reducible exact qleft (HX.out _)) | (go_at_call 35; with_reducible exact qleft (HXb.out _))))
          clear w1 w2 w3
          obtain ⟨w5, hw5⟩ : ∃ w5, ((w.alloc (.cells #[.int .i64 0, .int .i64 0, .bool false, .int .i64 0, .int .i64 0, .int .i64 0, .int .i64 0, .int .i64 0, .int .i64 0, .slice none 0 0, .int .i64 0, .int .i64 0, .int .i64 0, .string ⟨#[]⟩] 28)).alloc (.cells #[.int .i64 0, .int .i64 0] 39)).drewN nq = w5 := ⟨_, rfl⟩
          have hb1 : Blk w5 w.heap.size 28 zeroX := hw5 ▸ Blk.alloc (heap_alloc_new w _) _
          have hb2 : Blk w5 (w.heap.size + 1) 39 #[.int .i64 0, .int .i64 0] := hw5 ▸ heap_new_at (w.alloc _) _ _ (by simp)
          have hbw : Below w.heap.size w w5 := hw5 ▸ ⟨rfl, rfl, rfl, (((Below.refl _ _).alloc (Nat.le_refl _) (.cells #[.int .i64 0, .int .i64 0, .bool false, .int .i64 0, .int .i64 0, .int .i64 0, .int .i64 0, .int .i64 0, .int .i64 0, .slice none 0 0, .int .i64 0, .int .i64 0, .int .i64 0, .string ⟨#[]⟩] 28)).alloc (by simp) (.cells #[.int .i64 0, .int .i64 0] 39)).size, (((Below.refl _ _).alloc (Nat.le_refl _) (.cells #[.int .i64 0, .int .i64 0, .bool false, .int .i64 0, .int .i64 0, .int .i64 0, .int .i64 0, .int .i64 0, .int .i64 0, .slice none 0 0, .int .i64 0, .int .i64 0, .int .i64 0, .string ⟨#[]⟩] 28)).alloc (by simp) (.cells #[.int .i64 0, .int .i64 0] 39)).block⟩
          rw [hw5]
          have hl1 := hb1.lt
          have hl2 := hb2.lt
          have HB1 := Lib.hid hb1; clear hb1
          have HB2 := Lib.hid hb2; clear hb2
          have HBW := Lib.hid hbw; clear hbw hw5
          clear HX HXb HM HF HQ HWQ HW1 HNE HAT q0 q1 q2 q3 c3
          have q11 : (Fw.toList == [70, 73, 88]) = true := by rw [HWL.out]; rfl
          have q21 : (([70, 73, 88] : List UInt8) == Fw.toList) = true := by rw [HWL.out]; rfl
          have q12 : (Fw.toList == [83, 65, 84]) = false := by rw [HWL.out]; rfl
          have q22 : (([83, 65, 84] : List UInt8) == Fw.toList) = false := by rw [HWL.out]; rfl
          have q13 : (Fw.toList == [84, 88, 84]) = false := by rw [HWL.out]; rfl
          have q23 : (([84, 88, 84] : List UInt8) == Fw.toList) = false := by rw [HWL.out]; rfl
          obtain ⟨b, hb⟩ : ∃ b, w5.heap.size = b := ⟨_, rfl⟩
          rw [hb] at hl1 hl2
          go_wp2_with fail
          obtain ⟨w6, hw6⟩ : ∃ w6, (w5.alloc (.cells #[.string s, .int .i64 1, .int .i64 k, .bool true, .int .i64 0, .int .i64 0] 78)).alloc (.cells #[.int .i64 0, .int .i64 0, .bool false, .int .i64 0, .int .i64 0, .int .i64 0, .int .i64 0, .int .i64 0, .int .i64 0, .slice none 0 0, .int .i64 0, .int .i64 0, .int .i64 0, .string ⟨#[]⟩] 28) = w6 := ⟨_, rfl⟩
          have HR6 : Hid (Rs w6 b 78 s k Plain.st0 #[]) := Lib.hid (hw6 ▸ Rd.alloc (hb ▸ rrd_new w5 s k) _)
          have HX6 : Hid (Blk w6 (b + 1) 28 #[.int .i64 0, .int .i64 0, .bool false, .int .i64 0, .int .i64 0, .int .i64 0, .int .i64 0, .int .i64 0, .int .i64 0, .slice none 0 0, .int .i64 0, .int .i64 0, .int .i64 0, .string ⟨#[]⟩]) := Lib.hid (hw6 ▸ heap_new_at _ _ _ (by simp; omega))
          have HB6 : Hid (Below b w5 w6) := Lib.hid (hw6 ▸ (((Below.refl b w5).alloc (by omega) _).alloc (by simp; omega) _))
          rw [hw6]
          clear hw6
          have HBE := Lib.hid hb; clear hb
          refine (HF1.out b w6 HR6.out).mono ?_
          rintro en w7 ⟨⟨zf, rfl, -⟩, hr7, hg7⟩
          have HR7 := Lib.hid hr7; clear hr7
          have HX7 := Lib.hid (HX6.out.grown hg7 (by simp))
          have HB7 := Lib.hid (HB6.out.grown hg7 (Nat.le_of_lt (Rd.lt HR6.out)) (fun g e => by cases e; exact Nat.le_refl _))
          clear hg7 HR6 HX6 HB6 HF1
          have c0 := HX7.out.cell 0
          have fr := HX7.out.frozen
          go_wp2_with fail
          obtain ⟨w8, hw8⟩ : ∃ w8, w7.setCell ⟨b + 1, 0, none⟩ (.int .i64 1) = w8 := ⟨_, rfl⟩
          have HR8 := Lib.hid (hw8 ▸ Rs.far HR7.out (show b ≠ b + 1 by omega) (.int .i64 1) (i := 0))
          have HX8 : Hid (Blk w8 (b + 1) 28 #[.int .i64 1, .int .i64 0, .bool false, .int .i64 0, .int .i64 0, .int .i64 0, .int .i64 0, .int .i64 0, .int .i64 0, .slice none 0 0, .int .i64 0, .int .i64 0, .int .i64 0, .string ⟨#[]⟩]) := Lib.hid (hw8 ▸ HX7.out.put 0 (.int .i64 1) rfl)
          have HB8 := Lib.hid (hw8 ▸ HB7.out.setCell (p := ⟨b + 1, 0, none⟩) (by show b ≤ b + 1; omega) (.int .i64 1))
          rw [hw8]
          clear hw8 HR7 HX7 HB7 c0 fr
          refine (HNT.out b w8 HR8.out).mono ?_
          rintro en w9 ⟨t, rfl, ht, hr9, hg9⟩
          have HR9 := Lib.hid hr9; clear hr9
          have Ht := Lib.hid ht; clear ht
          have HX9 := Lib.hid (HX8.out.grown hg9 (by simp))
          have HB9 := Lib.hid (HB8.out.grown hg9 (Nat.le_of_lt (Rd.lt HR8.out)) (fun g e => by cases e; exact Nat.le_refl _))
          clear hg9 HR8 HX8 HB8 HNT
          have c0 := HX9.out.cell 1
          have fr := HX9.out.frozen
          go_wp2_with fail
          obtain ⟨w10, hw10⟩ : ∃ w10, w9.setCell ⟨b + 1, 1, none⟩ (.int .i64 t) = w10 := ⟨_, rfl⟩
          have HR10 := Lib.hid (hw10 ▸ Rs.far HR9.out (show b ≠ b + 1 by omega) (.int .i64 t) (i := 1))
          have HX10 : Hid (Blk w10 (b + 1) 28 #[.int .i64 1, .int .i64 t, .bool false, .int .i64 0, .int .i64 0, .int .i64 0, .int .i64 0, .int .i64 0, .int .i64 0, .slice none 0 0, .int .i64 0, .int .i64 0, .int .i64 0, .string ⟨#[]⟩]) := Lib.hid (hw10 ▸ HX9.out.put 1 (.int .i64 t) rfl)
          have HB10 := Lib.hid (hw10 ▸ HB9.out.setCell (p := ⟨b + 1, 1, none⟩) (by show b ≤ b + 1; omega) (.int .i64 t))
          rw [hw10]
          clear hw10 HR9 HX9 HB9 c0 fr
          refine (HNF.out b 0 w10 _ _ _ rfl HR10.out).mono ?_
          rintro en w11 ⟨z1, rfl, hz1, hr1, hg1⟩
          have HR11 := Lib.hid hr1; clear hr1
          have HZ1 := Lib.hid hz1; clear hz1
          have HX11 := Lib.hid (HX10.out.grown hg1 (by simp))
          have HB11 := Lib.hid (HB10.out.grown hg1 (Nat.le_of_lt (Rd.lt HR10.out)) (fun g e => by cases e; exact Nat.le_refl _))
          clear hg1 HR10 HX10 HB10
          have c0 := HX11.out.cell 2
          have fr := HX11.out.frozen
          obtain ⟨XF, hXF⟩ : ∃ XF : Array Value, #[.int .i64 1, .int .i64 t, .bool false, .int .i64 0, .int .i64 0, .int .i64 0, .int .i64 0, .int .i64 0, .int .i64 0, .slice none 0 0, .int .i64 0, .int .i64 0, .int .i64 0, .string ⟨#[]⟩] = XF := ⟨_, rfl⟩
          have hs14 : XF.size = 14 := by rw [← hXF]; rfl
          have hs9 : XF[9]? = some (.slice none 0 0) := by rw [← hXF]; rfl
          have hx0 := HX11.out
          rw [hXF] at hx0
          have HS := Lib.hid (FixQ.step (j := 0) (by omega) hs14 ⟨rfl, rfl⟩ (fun _ => rfl) HZ1.out HR11.out hx0 HB11.out)
          change Hid (FixQ w5 (w11.setCell ⟨b + 1, 2, none⟩ (.bool (z1 == 1))) b 78 s k (Plain.stT s k) XF 1) at HS
          clear HZ1 hx0
          have HXF := Lib.hid (And.intro hXF (And.intro hs14 hs9)); clear hXF hs14 hs9
          go_wp2_with fail
          generalize w11.setCell ⟨b + 1, 2, none⟩ (.bool (z1 == 1)) = w2 at *
          clear HR11 HX11 HB11 c0 fr
          go_loopw [10] (fun i wr => ∃ jj : Nat, jj ≤ 3 ∧ i = .int .i64 jj ∧ FixQ w5 wr b 78 s k (Plain.stT s k) XF (jj + 1)) (fun i _ => 3 - (intOf i).toNat)
          case atStart => exact ⟨0, by omega, rfl, HS.out⟩
          case round =>
            obtain ⟨jj, hjj, rfl, X1, hX1, hr1, hx1, h91, hq1, hb1⟩ := hrel
            have HQ1 := Lib.hid (And.intro h91 hq1); clear h91 hq1
            have HR := Lib.hid hr1; clear hr1
            have HXX := Lib.hid hx1; clear hx1
            have HBB := Lib.hid hb1; clear hb1
            clear HS
            by_cases hlt : jj < 3
            · have hB : Plain.fixB (jj + 1) = (-10000000000000, 10000000000000, 2) := by unfold Plain.fixB; rw [if_neg (by omega), if_pos (by omega)]
              have HB := Lib.hid hB; clear hB
              go_wp2_with fail
              refine (HNF.out b _ wr _ _ _ HB.out HR.out).mono ?_
              rintro en w3 ⟨z3, rfl, hz, hr3, hg3⟩
              have HR3 := Lib.hid hr3; clear hr3
              have HX3 := Lib.hid (HXX.out.grown hg3 (by simp))
              have HB3 := Lib.hid (HBB.out.grown hg3 (Nat.le_of_lt (Rd.lt HR.out)) (fun g e => by cases e; exact Nat.le_refl _))
              clear hg3
              have HZ3 := Lib.hid hz; clear hz
              have hfr := HX3.out.frozen
              obtain ⟨v3, c3⟩ := blkCell HX3.out hX1 (k := 3 + jj) (by omega)
              all_goals
                have HS3 := Lib.hid (FixQ.step (j := jj + 1) (by omega) hX1 HQ1.out.1 HQ1.out.2 HZ3.out HR3.out HX3.out HB3.out)
                have e1 : fixV (jj + 1) z3 = .int .i64 z3 := by unfold fixV; rw [if_neg (by omega)]
                rw [e1, show 2 + (jj + 1) = 3 + jj by omega] at HS3
                clear e1
                go_wp2_with fail
                go_roundw
                case rel => first | exact ⟨jj + 1, by omega, by go_num, HS3.out⟩ | ((repeat apply Exists.intro); exact ⟨⟨jj + 1, by omega, by go_num, HS3.out⟩, rfl⟩)
                case measure => simp [intOf]; omega
            · obtain rfl : jj = 3 := by omega
              clear hlt hjj
              go_wp2_with fail
              obtain ⟨wv, hwv⟩ : ∃ wv, wr = wv := ⟨_, rfl⟩
              rw [hwv] at HR HXX HBB ⊢
              have HS : Hid (FixQ w5 wv b 78 s k (Plain.stT s k) XF (3 + 1)) := Lib.hid ⟨X1, hX1, HR.out, HXX.out, HQ1.out.1, HQ1.out.2, HBB.out⟩
              clear hwv hX1 HQ1 HR HXX HBB
              go_loopw [11] (fun i wr => ∃ jj : Nat, jj ≤ 3 ∧ i = .int .i64 jj ∧ FixQ w5 wr b 78 s k (Plain.stT s k) XF (jj + 4)) (fun i _ => 3 - (intOf i).toNat)
              case atStart => exact ⟨0, by omega, rfl, HS.out⟩
              case round =>
                obtain ⟨jj, hjj, rfl, X1, hX1, hr1, hx1, h91, hq1, hb1⟩ := hrel
                have HQ1 := Lib.hid (And.intro h91 hq1); clear h91 hq1
                have HR := Lib.hid hr1; clear hr1
                have HXX := Lib.hid hx1; clear hx1
                have HBB := Lib.hid hb1; clear hb1
                clear HS
                by_cases hlt : jj < 3
                · have hB : Plain.fixB (jj + 4) = (0, 10000000000000, 2) := by unfold Plain.fixB; rw [if_neg (by omega), if_neg (by omega), if_pos (by omega)]
                  have HB := Lib.hid hB; clear hB
                  go_wp2_with fail
                  refine (HNF.out b _ wr _ _ _ HB.out HR.out).mono ?_
                  rintro en w3 ⟨z3, rfl, hz, hr3, hg3⟩
                  have HR3 := Lib.hid hr3; clear hr3
                  have HX3 := Lib.hid (HXX.out.grown hg3 (by simp))
                  have HB3 := Lib.hid (HBB.out.grown hg3 (Nat.le_of_lt (Rd.lt HR.out)) (fun g e => by cases e; exact Nat.le_refl _))
                  clear hg3
                  have HZ3 := Lib.hid hz; clear hz
                  have hfr := HX3.out.frozen
                  obtain ⟨v3, c3⟩ := blkCell HX3.out hX1 (k := 6 + jj) (by omega)
                  all_goals
                    have HS3 := Lib.hid (FixQ.step (j := jj + 4) (by omega) hX1 HQ1.out.1 HQ1.out.2 HZ3.out HR3.out HX3.out HB3.out)
                    have e1 : fixV (jj + 4) z3 = .int .i64 z3 := by unfold fixV; rw [if_neg (by omega)]
                    rw [e1, show 2 + (jj + 4) = 6 + jj by omega] at HS3
                    clear e1
                    go_wp2_with fail
                    go_roundw
                    case rel => first | exact ⟨jj + 1, by omega, by go_num, HS3.out⟩ | ((repeat apply Exists.intro); exact ⟨⟨jj + 1, by omega, by go_num, HS3.out⟩, rfl⟩)
                    case measure => simp [intOf]; omega
                · obtain rfl : jj = 3 := by omega
                  clear hlt hjj
                  go_wp2_with fail
                  refine (HNF.out b 7 wr _ _ _ rfl HR.out).mono ?_
                  rintro en w6 ⟨many, rfl, hmz, hr6, hg6⟩
                  have hx6 := HXX.out.grown hg6 (by simp)
                  have hb6 := HBB.out.grown hg6 (Nat.le_of_lt (Rd.lt HR.out)) (fun g e => by cases e; exact Nat.le_refl _)
                  have H3 : PrnQ w5 w6 b 78 s k (Plain.fixEnd s k (Plain.stT s k)) (Plain.fixL s k (Plain.stT s k)) X1 many 0 0 := by
                    refine ⟨Plain.fixSt s k (Plain.stT s k) 8, .slice none 0 0, [], Plain.okSt_fix HOT.out 8, hr6, ?_, World.ownsRow_nil _ _ _ _, ⟨rfl, fun _ => rfl, fun h => absurd h (by omega)⟩, ?_, ?_, ?_, hb6⟩
                    · rw [set_same (HQ1.out.1.1.trans HXF.out.2.2)]; exact hx6
                    · unfold Plain.fixEnd Plain.fixMany
                      by_cases h0 : (Plain.fixSt s k (Plain.stT s k) 8).er = 0
                      · rw [hmz h0, Nat.sub_zero]
                      · rw [Plain.prnSt_er h0, Plain.prnSt_er h0]
                    · intro hf
                      rw [List.nil_append, Nat.sub_zero]
                      unfold Plain.fixL Plain.fixMany
                      by_cases h0 : (Plain.fixSt s k (Plain.stT s k) 8).er = 0
                      · rw [hmz h0]
                      · unfold Plain.fixEnd at hf
                        rw [Plain.prnSt_er h0] at hf
                        exact absurd hf h0
                    · intro h0
                      have := Plain.num_range (by decide) (show (Plain.numSt s k (Plain.fixSt s k (Plain.stT s k) 7) 0 16 4).er = 0 from h0)
                      rw [hmz h0]
                      obtain ⟨_, _, _, g1, g2⟩ := this
                      exact g2
                  have HP := Lib.hid H3; clear H3
                  have HX2 := Lib.hid (fun (hf : (Plain.fixEnd s k (Plain.stT s k)).er = 0) => HQ1.out.2 (Plain.num_er (Plain.fixEnd_er hf)))
                  clear hr6 hg6 hx6 hb6 hmz HR HXX HBB HQ1 HNF
                  go_wp2_with fail
                  go_loopw [13] (fun i wr => ∃ (ii : Nat) (last : Int), i = .int .i64 ii ∧ ii ≤ 16 ∧ PrnQ w5 wr b 78 s k (Plain.fixEnd s k (Plain.stT s k)) (Plain.fixL s k (Plain.stT s k)) X1 many last ii) (fun i _ => 16 - (intOf i).toNat)
                  case atStart => exact ⟨0, 0, rfl, by omega, HP.out⟩
                  case round =>
                    obtain ⟨ii, last, rfl, hii, st', v, zs, ok', hr', hx', ho', hi', hE, hL, hb', hB'⟩ := hrel
                    clear HP
                    have HE := Lib.hid hE; clear hE
                    have HL := Lib.hid hL; clear hL
                    have HO := Lib.hid ho'; clear ho'
                    have HB := Lib.hid hB'; clear hB'
                    have HR := Lib.hid hr'; clear hr'
                    have HXX := Lib.hid hx'; clear hx'
                    have HK := Lib.hid ok'; clear ok'
                    have HM := Lib.hid hb'; clear hb'
                    have HLI := Lib.hid hi'; clear hi'
                    obtain ⟨d0, d1, d2, d3, d4, d5⟩ := Rd.cells HR.out
                    clear d0 d2 d3 d5
                    by_cases her : st'.er = 0
                    · rw [her] at d4
                      have HER := Lib.hid her; clear her
                      by_cases hm : (ii : Int) < many
                      · have hm16 := HM.out HER.out
                        go_wp2_with fail
                        refine (HNM.out b wr st' HK.out HR.out).mono ?_
                        rintro en w7 ⟨z7, rfl, hz7, hr7, hg7⟩
                        have HR7 := Lib.hid hr7; clear hr7
                        have HZ7 := Lib.hid hz7; clear hz7
                        have HX7 := Lib.hid (HXX.out.grown hg7 (by simp))
                        have HO7 := Lib.hid (own_grown HO.out (by omega) hg7)
                        have HB7 := Lib.hid (HB.out.grown hg7 (Nat.le_of_lt (Rd.lt HR.out)) (fun g e => by cases e; exact Nat.le_refl _))
                        have HP1 := Lib.hid (Plain.prn1_of (last := last) HZ7.out)
                        have HLN := Lib.hid (show zs.length + 1 ≤ 16 by have := HLI.out.1; omega)
                        clear hg7 d1 d4 HR HXX HO HB
                        by_cases hi0 : ii = 0
                        · have hp : Plain.prnSt1 s k last st' = Plain.numSt s k st' 1 63 2 := by rw [HLI.out.2.1 hi0]; exact Plain.prn1_first
                          have hi1 : ¬ (0 < (ii : Int)) := by omega
                          have hr := HR7.out; rw [← hp] at hr
                          have HR8 := Lib.hid hr; clear hr hp HP1
                          have HX8 := Lib.hid HX7.out
                          have HO8 := Lib.hid HO7.out
                          have HB8 := Lib.hid HB7.out
                          go_upto_region 44 with (fail)
                          clear HR7 HX7 HO7 HB7
                          obtain ⟨i0, hi, hz0, hz1, hz2⟩ := HI.out
                          have c9 := blkPrn HX8.out hX1
                          have hlt8 := Rd.lt HR8.out
                          have hlt9 := HX8.out.lt
                          go_wp2_with (at_builtin; refine wpList_append_own _ rfl _ _ 22 rfl (b + 2) 3 i0 (.int .i64 0) 1 8 Tryz.underlying22 hi hz0 hz1 hz2 rfl (by decide) _ _ _ rfl (HO8.out.alloc _) ⟨w7.heap.size, 0, none⟩ 1 1 [.int .i64 z7] rfl rfl ?_ ?_ ?_ ?_ ?_ ?_; rotate_left 5; intro v' w9 hown9 hg9 _; obtain ⟨g', cap', rfl⟩ := ownsRow_succ hown9; have HR9 := Lib.hid (rprnGrown HR8.out HO8.out hg9); have HX9 := Lib.hid (rprnBlk HX8.out HO8.out hg9); have c10 := blkPrn HX9.out hX1; have hfr := HX9.out.frozen; have HOW := Lib.hid hown9; clear hown9; have HG9 := Lib.hid hg9; clear hg9)
                          rotate_left 1
                          · exact cell_new_at _ _ _ _ (by simp)
                          · simp [Value.oneCell']
                          · have := HLN.out; simp only [maxLen]; omega
                          · have := HLN.out; omega
                          · simp; omega
                          have HBB := Lib.hid (rprnBelow HB8.out HG9.out HO8.out hlt8)
                          go_roundw
                          case rel => exact ⟨ii + 1, z7, by go_num, by omega, PrnQ.next HER.out hm HZ7.out HK.out HLI.out HE.out HL.out HM.out HR9.out HX9.out HOW.out HBB.out⟩
                          case measure => simp [intOf]; omega
                        · obtain ⟨ad, c5, hv, hcell⟩ := prnLast HO7.out rfl HLI.out.1 (by omega) (HLI.out.2.2 (by omega))
                          have hi1 : 0 < (ii : Int) := by omega
                          have a1 : IntKind.i64.wrap ((ii : Int) - 1) = (ii : Int) - 1 := IntWalk.i64_in _ (by omega)
                          have b1 : ((ii : Int) - 1).toNat = ii - 1 := by omega
                          have g1 : 0 ≤ (ii : Int) - 1 := by omega
                          have g2 : (ii : Int) - 1 < ii := by omega
                          have c9 := blkPrn HX7.out hX1
                          rw [hv] at c9
                          have HV := Lib.hid hv; clear hv
                          by_cases hzl : z7 ≤ last
                          · have hp1 := HP1.out
                            rw [if_pos hzl] at hp1
                            go_wp2_with fail
                            refine (rfail_st b 78 s k _ #[] w7 9 st'.pos HR7.out).mono ?_
                            rintro en w8 ⟨rfl, hr8, hg8⟩
                            rw [← hp1] at hr8
                            have HR8 := Lib.hid hr8; clear hr8
                            have HX8 := Lib.hid (HX7.out.grown hg8 (by simp))
                            have HO8 := Lib.hid (own_grown HO7.out (by omega) hg8)
                            have HB8 := Lib.hid (HB7.out.grown hg8 (Nat.le_of_lt (Rd.lt HR7.out)) (fun g e => by cases e; exact Nat.le_refl _))
                            clear hp1 HP1 HR7 HX7 HO7 HB7 hg8 c9 hcell
                            obtain ⟨i0, hi, hz0, hz1, hz2⟩ := HI.out
                            have c9 := blkPrn HX8.out hX1
                            have hlt8 := Rd.lt HR8.out
                            have hlt9 := HX8.out.lt
                            go_wp2_with (at_builtin; refine wpList_append_own _ rfl _ _ 22 rfl (b + 2) 3 i0 (.int .i64 0) 1 8 Tryz.underlying22 hi hz0 hz1 hz2 rfl (by decide) _ _ _ rfl (HO8.out.alloc _) ⟨w8.heap.size, 0, none⟩ 1 1 [.int .i64 z7] rfl rfl ?_ ?_ ?_ ?_ ?_ ?_; rotate_left 5; intro v' w9 hown9 hg9 _; obtain ⟨g', cap', rfl⟩ := ownsRow_succ hown9; have HR9 := Lib.hid (rprnGrown HR8.out HO8.out hg9); have HX9 := Lib.hid (rprnBlk HX8.out HO8.out hg9); have c10 := blkPrn HX9.out hX1; have hfr := HX9.out.frozen; have HOW := Lib.hid hown9; clear hown9; have HG9 := Lib.hid hg9; clear hg9)
                            rotate_left 1
                            · exact cell_new_at _ _ _ _ (by simp)
                            · simp [Value.oneCell']
                            · have := HLN.out; simp only [maxLen]; omega
                            · have := HLN.out; omega
                            · simp; omega
                            have HBB := Lib.hid (rprnBelow HB8.out HG9.out HO8.out hlt8)
                            go_roundw
                            case rel => exact ⟨ii + 1, z7, by go_num, by omega, PrnQ.next HER.out hm HZ7.out HK.out HLI.out HE.out HL.out HM.out HR9.out HX9.out HOW.out HBB.out⟩
                            case measure => simp [intOf]; omega
                          · have hp := HP1.out
                            rw [if_neg hzl] at hp
                            have hzl' : last < z7 := by omega
                            clear hzl
                            have hr := HR7.out; rw [← hp] at hr
                            have HR8 := Lib.hid hr; clear hr hp HP1
                            have HX8 := Lib.hid HX7.out
                            have HO8 := Lib.hid HO7.out
                            have HB8 := Lib.hid HB7.out
                            go_upto_region 44 with (fail)
                            clear HR7 HX7 HO7 HB7
                            try clear c9 hcell
                            obtain ⟨i0, hi, hz0, hz1, hz2⟩ := HI.out
                            have c9 := blkPrn HX8.out hX1
                            have hlt8 := Rd.lt HR8.out
                            have hlt9 := HX8.out.lt
                            go_wp2_with (at_builtin; refine wpList_append_own _ rfl _ _ 22 rfl (b + 2) 3 i0 (.int .i64 0) 1 8 Tryz.underlying22 hi hz0 hz1 hz2 rfl (by decide) _ _ _ rfl (HO8.out.alloc _) ⟨w7.heap.size, 0, none⟩ 1 1 [.int .i64 z7] rfl rfl ?_ ?_ ?_ ?_ ?_ ?_; rotate_left 5; intro v' w9 hown9 hg9 _; obtain ⟨g', cap', rfl⟩ := ownsRow_succ hown9; have HR9 := Lib.hid (rprnGrown HR8.out HO8.out hg9); have HX9 := Lib.hid (rprnBlk HX8.out HO8.out hg9); have c10 := blkPrn HX9.out hX1; have hfr := HX9.out.frozen; have HOW := Lib.hid hown9; clear hown9; have HG9 := Lib.hid hg9; clear hg9)
                            rotate_left 1
                            · exact cell_new_at _ _ _ _ (by simp)
                            · simp [Value.oneCell']
                            · have := HLN.out; simp only [maxLen]; omega
                            · have := HLN.out; omega
                            · simp; omega
                            have HBB := Lib.hid (rprnBelow HB8.out HG9.out HO8.out hlt8)
                            go_roundw
                            case rel => exact ⟨ii + 1, z7, by go_num, by omega, PrnQ.next HER.out hm HZ7.out HK.out HLI.out HE.out HL.out HM.out HR9.out HX9.out HOW.out HBB.out⟩
                            case measure => simp [intOf]; omega
                      · have HD := Lib.hid (Plain.prn_done (Or.inr (by omega)) HE.out HL.out)
                        clear d1
                        go_upto_region 60 with (fail)
                        obtain ⟨w50, hw50⟩ : ∃ w50, wr = w50 := ⟨_, rfl⟩
                        rw [hw50] at HR HXX HB HO ⊢
                        obtain ⟨A5, n5, c5, hv5⟩ := own_form HO.out
                        have hr := HR.out; rw [HD.out.1] at hr; have HR50 := Lib.hid hr
                        have ho := HO.out; rw [hv5] at ho; have HO50 := Lib.hid ho
                        have hx := HXX.out; rw [hv5] at hx; have HX50 := Lib.hid hx
                        have HB50 := Lib.hid HB.out
                        have HZS := Lib.hid HD.out.2
                        clear hr ho hx hv5 HR HO HXX HB HD hw50 d4 HE HL HK HM HLI HI HNM
                        have HQ : Hid ((Plain.endSt (Plain.fixEnd s k (Plain.stT s k))).er = 0 → (X1.setIfInBounds 9 (.slice A5 n5 c5) : Array Value) = snCells (Plain.bodySn s k 1) (.slice A5 n5 c5)) := Lib.hid (by
                          intro h
                          have h1 := Plain.endSt_er h
                          have hT : (Plain.stT s k).er = 0 := Plain.fixSt_er (Plain.fixEnd_er h1)
                          rw [HX2.out h1, ← HXF.out.1, Ht.out hT]
                          rfl)
                        clear Ht HX2 HXF
                        obtain ⟨st, hst⟩ : ∃ st, Plain.fixEnd s k (Plain.stT s k) = st := ⟨_, rfl⟩
                        have HST := Lib.hid ((Plain.bodySt_1 s k).trans hst)
                        have hr := HR50.out
                        rw [hst] at hr HQ HZS
                        clear HR50 hst
                        have HR50 := Lib.hid hr; clear hr
                        by_cases hmo : st.more = true
                        · have e3 := (Rd.cells HR50.out).2.2.2.1
                          have e1 := (Rd.cells HR50.out).2.1
                          rw [hmo] at e3
                          go_wp2_with fail
                          refine (rfail_st b 78 s k st #[] w50 11 st.pos HR50.out).mono ?_
                          rintro en w51 ⟨rfl, hr51, hg51⟩
                          have he1 : Plain.endSt st = Plain.failSt st 11 st.pos := if_pos hmo
                          rw [← he1] at hr51
                          have HR51 := Lib.hid hr51; clear hr51 e1 e3
                          have HB51 := Lib.hid (HB50.out.grown hg51 (Nat.le_of_lt (Rd.lt HR50.out)) (fun g e => by cases e; exact Nat.le_refl _))
                          have hne0 : (Plain.endSt st).er ≠ 0 := by rw [he1]; exact fun h => Plain.fail_er (by decide) h
                          have HFE := Lib.hid (Plain.fieldsP_er (s := s) (e := k) (k := 1) (by rw [HST.out]; exact hne0))
                          rw [HST.out] at HFE
                          have HP1 := Lib.hid (HB1.out.below HB51.out (by omega))
                          have HP2 := Lib.hid (HB2.out.below HB51.out (by omega))
                          have HBW5 := Lib.hid (HBW.out.trans (HB51.out.mono (by omega)))
                          have hlt5 := Rd.lt HR51.out
                          have hs1 : w.heap.size < w51.heap.size := by omega
                          have hs2 : w.heap.size + 1 < w51.heap.size := by omega
                          obtain ⟨x0, x1, x2, x3, x4, x5, x6, x7, x8, x9, x10, x11, x12, x13⟩ := HP1.out.zeros
                          have y0 := HP2.out.cell 0
                          have y1 := HP2.out.cell 1
                          have f1 := HP1.out.frozen
                          have f2 := HP2.out.frozen
                          have f3 := Rd.frozen HR51.out
                          obtain ⟨e0, e1, e2, e3, e4, e5⟩ := Rd.cells HR51.out
                          clear e0 e1 e2
                          obtain ⟨er, her⟩ : ∃ er, (Plain.endSt st).er = er := ⟨_, rfl⟩
                          obtain ⟨ea, hea⟩ : ∃ ea, (Plain.endSt st).ea = ea := ⟨_, rfl⟩
                          rw [her] at e4 hne0
                          rw [hea] at e5
                          rw [her, hea] at HFE
                          have hq : (er != 0) = true := by simpa using hne0
                          clear HST HQ her hea hne0 he1 e3 hg51 HR50 HX50
                          go_wp2_with fail
                          go_region
                          all_goals
                            go_wp2_with fail
                            obtain ⟨W, hW, hA, hC, hBB, -, -⟩ := set_all HP1.out rfl HP2.out (by omega) HBW5.out (Nat.le_refl _) (by omega) (.int .i64 0) (.int .i64 0) (.bool false) (.int .i64 0) (.int .i64 0) (.int .i64 0) (.int .i64 0) (.int .i64 0) (.int .i64 0) (.slice none 0 0) (.int .i64 0) (.int .i64 0) (.int .i64 0) (.string ⟨#[]⟩) (.int .i64 er) (.int .i64 ea)
                            rw [hW, HFE.out]
                            exact rparse_ret rfl rfl hA.drew hC.drew (World.ownsRow_nil _ _ _ _) hBB.drew
                        · have he1 : Plain.endSt st = st := if_neg hmo
                          have hmo' : st.more = false := by simpa using hmo
                          have HP1 := Lib.hid (HB1.out.below HB50.out (by omega))
                          have HP2 := Lib.hid (HB2.out.below HB50.out (by omega))
                          have HBW5 := Lib.hid (HBW.out.trans (HB50.out.mono (by omega)))
                          have hlt5 := Rd.lt HR50.out
                          have hs1 : w.heap.size < w50.heap.size := by omega
                          have hs2 : w.heap.size + 1 < w50.heap.size := by omega
                          obtain ⟨x0, x1, x2, x3, x4, x5, x6, x7, x8, x9, x10, x11, x12, x13⟩ := HP1.out.zeros
                          have y0 := HP2.out.cell 0
                          have y1 := HP2.out.cell 1
                          have f1 := HP1.out.frozen
                          have f2 := HP2.out.frozen
                          have f3 := Rd.frozen HR50.out
                          obtain ⟨e0, e1, e2, e3, e4, e5⟩ := Rd.cells HR50.out
                          clear e0 e1 e2
                          rw [hmo'] at e3
                          obtain ⟨er, her⟩ : ∃ er, st.er = er := ⟨_, rfl⟩
                          obtain ⟨ea, hea⟩ : ∃ ea, st.ea = ea := ⟨_, rfl⟩
                          rw [her] at e4
                          rw [hea] at e5
                          by_cases h0 : er = 0
                          · have HF := Lib.hid (Plain.fieldsP_ok (s := s) (e := k) (k := 1) (by rw [HST.out, he1, her, h0]))
                            rw [h0] at e4
                            have hxx := HX50.out
                            rw [HQ.out (by rw [he1, her, h0])] at hxx
                            have hkk : (Plain.bodySn s k 1).kind = 1 := rfl
                            have how := HO50.out
                            rw [show zs = (Plain.bodySn s k 1).prns from HZS.out (her.trans h0)] at how
                            have HO6 := Lib.hid how; clear how HO50 HZS
                            generalize Plain.bodySn s k 1 = sn at *
                            obtain ⟨z0, z1, z2, z3, z4, z5, z6, z7, z8, z9, z10, z11, z12, z13⟩ := Blk.cells14 hxx
                            rw [hkk] at z0
                            have HKK := Lib.hid hkk
                            clear hkk hxx HQ HST her hea h0 he1 HX50
                            go_wp2_with fail
                            obtain ⟨W, hW, hA, hC, hBB, hsz, hoth⟩ := set_all HP1.out rfl HP2.out (by omega) HBW5.out (Nat.le_refl _) (by omega) (.int .i64 1) (.int .i64 sn.time) (.bool sn.ok) (.int .i64 sn.p0) (.int .i64 sn.p1) (.int .i64 sn.p2) (.int .i64 sn.l0) (.int .i64 sn.l1) (.int .i64 sn.l2) (.slice A5 n5 c5) (.int .i64 sn.prn) (.int .i64 sn.lag) (.int .i64 sn.power) (.string sn.text) (.int .i64 0) (.int .i64 0)
                            rw [hW, HF.out]
                            have hA2 : Blk W w.heap.size 28 (snCells sn (.slice A5 n5 c5)) := by unfold snCells; rw [HKK.out]; exact hA
                            exact rparse_ret rfl rfl hA2 hC (own_base (own_other HO6.out (by omega) (by omega) hoth) (by omega)) hBB
                          · have hq : (er != 0) = true := by simpa using h0
                            have HFE := Lib.hid (Plain.fieldsP_er (s := s) (e := k) (k := 1) (by rw [HST.out, he1, her]; exact h0))
                            rw [HST.out, he1, her, hea] at HFE
                            clear HST HQ her hea h0 he1 HX50
                            go_wp2_with fail
                            go_region
                            all_goals
                              go_wp2_with fail
                              obtain ⟨W, hW, hA, hC, hBB, -, -⟩ := set_all HP1.out rfl HP2.out (by omega) HBW5.out (Nat.le_refl _) (by omega) (.int .i64 0) (.int .i64 0) (.bool false) (.int .i64 0) (.int .i64 0) (.int .i64 0) (.int .i64 0) (.int .i64 0) (.int .i64 0) (.slice none 0 0) (.int .i64 0) (.int .i64 0) (.int .i64 0) (.string ⟨#[]⟩) (.int .i64 er) (.int .i64 ea)
                              rw [hW, HFE.out]
                              exact rparse_ret rfl rfl hA.drew hC.drew (World.ownsRow_nil _ _ _ _) hBB.drew
                    · have HD := Lib.hid (Plain.prn_done (Or.inl her) HE.out HL.out)
                      have hq : (st'.er == 0) = false := beq_eq_false_iff_ne.2 her
                      by_cases hm : (ii : Int) < many
                      · skip
                        clear d1
                        go_upto_region 60 with (fail)
                        obtain ⟨w50, hw50⟩ : ∃ w50, wr = w50 := ⟨_, rfl⟩
                        rw [hw50] at HR HXX HB HO ⊢
                        obtain ⟨A5, n5, c5, hv5⟩ := own_form HO.out
                        have hr := HR.out; rw [HD.out.1] at hr; have HR50 := Lib.hid hr
                        have ho := HO.out; rw [hv5] at ho; have HO50 := Lib.hid ho
                        have hx := HXX.out; rw [hv5] at hx; have HX50 := Lib.hid hx
                        have HB50 := Lib.hid HB.out
                        have HZS := Lib.hid HD.out.2
                        clear hr ho hx hv5 HR HO HXX HB HD hw50 d4 HE HL HK HM HLI HI HNM
                        have HQ : Hid ((Plain.endSt (Plain.fixEnd s k (Plain.stT s k))).er = 0 → (X1.setIfInBounds 9 (.slice A5 n5 c5) : Array Value) = snCells (Plain.bodySn s k 1) (.slice A5 n5 c5)) := Lib.hid (by
                          intro h
                          have h1 := Plain.endSt_er h
                          have hT : (Plain.stT s k).er = 0 := Plain.fixSt_er (Plain.fixEnd_er h1)
                          rw [HX2.out h1, ← HXF.out.1, Ht.out hT]
                          rfl)
                        clear Ht HX2 HXF
                        obtain ⟨st, hst⟩ : ∃ st, Plain.fixEnd s k (Plain.stT s k) = st := ⟨_, rfl⟩
                        have HST := Lib.hid ((Plain.bodySt_1 s k).trans hst)
                        have hr := HR50.out
                        rw [hst] at hr HQ HZS
                        clear HR50 hst
                        have HR50 := Lib.hid hr; clear hr
                        by_cases hmo : st.more = true
                        · have e3 := (Rd.cells HR50.out).2.2.2.1
                          have e1 := (Rd.cells HR50.out).2.1
                          rw [hmo] at e3
                          go_wp2_with fail
                          refine (rfail_st b 78 s k st #[] w50 11 st.pos HR50.out).mono ?_
                          rintro en w51 ⟨rfl, hr51, hg51⟩
                          have he1 : Plain.endSt st = Plain.failSt st 11 st.pos := if_pos hmo
                          rw [← he1] at hr51
                          have HR51 := Lib.hid hr51; clear hr51 e1 e3
                          have HB51 := Lib.hid (HB50.out.grown hg51 (Nat.le_of_lt (Rd.lt HR50.out)) (fun g e => by cases e; exact Nat.le_refl _))
                          have hne0 : (Plain.endSt st).er ≠ 0 := by rw [he1]; exact fun h => Plain.fail_er (by decide) h
                          have HFE := Lib.hid (Plain.fieldsP_er (s := s) (e := k) (k := 1) (by rw [HST.out]; exact hne0))
                          rw [HST.out] at HFE
                          have HP1 := Lib.hid (HB1.out.below HB51.out (by omega))
                          have HP2 := Lib.hid (HB2.out.below HB51.out (by omega))
                          have HBW5 := Lib.hid (HBW.out.trans (HB51.out.mono (by omega)))
                          have hlt5 := Rd.lt HR51.out
                          have hs1 : w.heap.size < w51.heap.size := by omega
                          have hs2 : w.heap.size + 1 < w51.heap.size := by omega
                          obtain ⟨x0, x1, x2, x3, x4, x5, x6, x7, x8, x9, x10, x11, x12, x13⟩ := HP1.out.zeros
                          have y0 := HP2.out.cell 0
                          have y1 := HP2.out.cell 1
                          have f1 := HP1.out.frozen
                          have f2 := HP2.out.frozen
                          have f3 := Rd.frozen HR51.out
                          obtain ⟨e0, e1, e2, e3, e4, e5⟩ := Rd.cells HR51.out
                          clear e0 e1 e2
                          obtain ⟨er, her⟩ : ∃ er, (Plain.endSt st).er = er := ⟨_, rfl⟩
                          obtain ⟨ea, hea⟩ : ∃ ea, (Plain.endSt st).ea = ea := ⟨_, rfl⟩
                          rw [her] at e4 hne0
                          rw [hea] at e5
                          rw [her, hea] at HFE
                          have hq : (er != 0) = true := by simpa using hne0
                          clear HST HQ her hea hne0 he1 e3 hg51 HR50 HX50
                          go_wp2_with fail
                          go_region
                          all_goals
                            go_wp2_with fail
                            obtain ⟨W, hW, hA, hC, hBB, -, -⟩ := set_all HP1.out rfl HP2.out (by omega) HBW5.out (Nat.le_refl _) (by omega) (.int .i64 0) (.int .i64 0) (.bool false) (.int .i64 0) (.int .i64 0) (.int .i64 0) (.int .i64 0) (.int .i64 0) (.int .i64 0) (.slice none 0 0) (.int .i64 0) (.int .i64 0) (.int .i64 0) (.string ⟨#[]⟩) (.int .i64 er) (.int .i64 ea)
                            rw [hW, HFE.out]
                            exact rparse_ret rfl rfl hA.drew hC.drew (World.ownsRow_nil _ _ _ _) hBB.drew
                        · have he1 : Plain.endSt st = st := if_neg hmo
                          have hmo' : st.more = false := by simpa using hmo
                          have HP1 := Lib.hid (HB1.out.below HB50.out (by omega))
                          have HP2 := Lib.hid (HB2.out.below HB50.out (by omega))
                          have HBW5 := Lib.hid (HBW.out.trans (HB50.out.mono (by omega)))
                          have hlt5 := Rd.lt HR50.out
                          have hs1 : w.heap.size < w50.heap.size := by omega
                          have hs2 : w.heap.size + 1 < w50.heap.size := by omega
                          obtain ⟨x0, x1, x2, x3, x4, x5, x6, x7, x8, x9, x10, x11, x12, x13⟩ := HP1.out.zeros
                          have y0 := HP2.out.cell 0
                          have y1 := HP2.out.cell 1
                          have f1 := HP1.out.frozen
                          have f2 := HP2.out.frozen
                          have f3 := Rd.frozen HR50.out
                          obtain ⟨e0, e1, e2, e3, e4, e5⟩ := Rd.cells HR50.out
                          clear e0 e1 e2
                          rw [hmo'] at e3
                          obtain ⟨er, her⟩ : ∃ er, st.er = er := ⟨_, rfl⟩
                          obtain ⟨ea, hea⟩ : ∃ ea, st.ea = ea := ⟨_, rfl⟩
                          rw [her] at e4
                          rw [hea] at e5
                          by_cases h0 : er = 0
                          · have HF := Lib.hid (Plain.fieldsP_ok (s := s) (e := k) (k := 1) (by rw [HST.out, he1, her, h0]))
                            rw [h0] at e4
                            have hxx := HX50.out
                            rw [HQ.out (by rw [he1, her, h0])] at hxx
                            have hkk : (Plain.bodySn s k 1).kind = 1 := rfl
                            have how := HO50.out
                            rw [show zs = (Plain.bodySn s k 1).prns from HZS.out (her.trans h0)] at how
                            have HO6 := Lib.hid how; clear how HO50 HZS
                            generalize Plain.bodySn s k 1 = sn at *
                            obtain ⟨z0, z1, z2, z3, z4, z5, z6, z7, z8, z9, z10, z11, z12, z13⟩ := Blk.cells14 hxx
                            rw [hkk] at z0
                            have HKK := Lib.hid hkk
                            clear hkk hxx HQ HST her hea h0 he1 HX50
                            go_wp2_with fail
                            obtain ⟨W, hW, hA, hC, hBB, hsz, hoth⟩ := set_all HP1.out rfl HP2.out (by omega) HBW5.out (Nat.le_refl _) (by omega) (.int .i64 1) (.int .i64 sn.time) (.bool sn.ok) (.int .i64 sn.p0) (.int .i64 sn.p1) (.int .i64 sn.p2) (.int .i64 sn.l0) (.int .i64 sn.l1) (.int .i64 sn.l2) (.slice A5 n5 c5) (.int .i64 sn.prn) (.int .i64 sn.lag) (.int .i64 sn.power) (.string sn.text) (.int .i64 0) (.int .i64 0)
                            rw [hW, HF.out]
                            have hA2 : Blk W w.heap.size 28 (snCells sn (.slice A5 n5 c5)) := by unfold snCells; rw [HKK.out]; exact hA
                            exact rparse_ret rfl rfl hA2 hC (own_base (own_other HO6.out (by omega) (by omega) hoth) (by omega)) hBB
                          · have hq : (er != 0) = true := by simpa using h0
                            have HFE := Lib.hid (Plain.fieldsP_er (s := s) (e := k) (k := 1) (by rw [HST.out, he1, her]; exact h0))
                            rw [HST.out, he1, her, hea] at HFE
                            clear HST HQ her hea h0 he1 HX50
                            go_wp2_with fail
                            go_region
                            all_goals
                              go_wp2_with fail
                              obtain ⟨W, hW, hA, hC, hBB, -, -⟩ := set_all HP1.out rfl HP2.out (by omega) HBW5.out (Nat.le_refl _) (by omega) (.int .i64 0) (.int .i64 0) (.bool false) (.int .i64 0) (.int .i64 0) (.int .i64 0) (.int .i64 0) (.int .i64 0) (.int .i64 0) (.slice none 0 0) (.int .i64 0) (.int .i64 0) (.int .i64 0) (.string ⟨#[]⟩) (.int .i64 er) (.int .i64 ea)
                              rw [hW, HFE.out]
                              exact rparse_ret rfl rfl hA.drew hC.drew (World.ownsRow_nil _ _ _ _) hBB.drew
                      · skip
                        clear d1
                        go_upto_region 60 with (fail)
                        obtain ⟨w50, hw50⟩ : ∃ w50, wr = w50 := ⟨_, rfl⟩
                        rw [hw50] at HR HXX HB HO ⊢
                        obtain ⟨A5, n5, c5, hv5⟩ := own_form HO.out
                        have hr := HR.out; rw [HD.out.1] at hr; have HR50 := Lib.hid hr
                        have ho := HO.out; rw [hv5] at ho; have HO50 := Lib.hid ho
                        have hx := HXX.out; rw [hv5] at hx; have HX50 := Lib.hid hx
                        have HB50 := Lib.hid HB.out
                        have HZS := Lib.hid HD.out.2
                        clear hr ho hx hv5 HR HO HXX HB HD hw50 d4 HE HL HK HM HLI HI HNM
                        have HQ : Hid ((Plain.endSt (Plain.fixEnd s k (Plain.stT s k))).er = 0 → (X1.setIfInBounds 9 (.slice A5 n5 c5) : Array Value) = snCells (Plain.bodySn s k 1) (.slice A5 n5 c5)) := Lib.hid (by
                          intro h
                          have h1 := Plain.endSt_er h
                          have hT : (Plain.stT s k).er = 0 := Plain.fixSt_er (Plain.fixEnd_er h1)
                          rw [HX2.out h1, ← HXF.out.1, Ht.out hT]
                          rfl)
                        clear Ht HX2 HXF
                        obtain ⟨st, hst⟩ : ∃ st, Plain.fixEnd s k (Plain.stT s k) = st := ⟨_, rfl⟩
                        have HST := Lib.hid ((Plain.bodySt_1 s k).trans hst)
                        have hr := HR50.out
                        rw [hst] at hr HQ HZS
                        clear HR50 hst
                        have HR50 := Lib.hid hr; clear hr
                        by_cases hmo : st.more = true
                        · have e3 := (Rd.cells HR50.out).2.2.2.1
                          have e1 := (Rd.cells HR50.out).2.1
                          rw [hmo] at e3
                          go_wp2_with fail
                          refine (rfail_st b 78 s k st #[] w50 11 st.pos HR50.out).mono ?_
                          rintro en w51 ⟨rfl, hr51, hg51⟩
                          have he1 : Plain.endSt st = Plain.failSt st 11 st.pos := if_pos hmo
                          rw [← he1] at hr51
                          have HR51 := Lib.hid hr51; clear hr51 e1 e3
                          have HB51 := Lib.hid (HB50.out.grown hg51 (Nat.le_of_lt (Rd.lt HR50.out)) (fun g e => by cases e; exact Nat.le_refl _))
                          have hne0 : (Plain.endSt st).er ≠ 0 := by rw [he1]; exact fun h => Plain.fail_er (by decide) h
                          have HFE := Lib.hid (Plain.fieldsP_er (s := s) (e := k) (k := 1) (by rw [HST.out]; exact hne0))
                          rw [HST.out] at HFE
                          have HP1 := Lib.hid (HB1.out.below HB51.out (by omega))
                          have HP2 := Lib.hid (HB2.out.below HB51.out (by omega))
                          have HBW5 := Lib.hid (HBW.out.trans (HB51.out.mono (by omega)))
                          have hlt5 := Rd.lt HR51.out
                          have hs1 : w.heap.size < w51.heap.size := by omega
                          have hs2 : w.heap.size + 1 < w51.heap.size := by omega
                          obtain ⟨x0, x1, x2, x3, x4, x5, x6, x7, x8, x9, x10, x11, x12, x13⟩ := HP1.out.zeros
                          have y0 := HP2.out.cell 0
                          have y1 := HP2.out.cell 1
                          have f1 := HP1.out.frozen
                          have f2 := HP2.out.frozen
                          have f3 := Rd.frozen HR51.out
                          obtain ⟨e0, e1, e2, e3, e4, e5⟩ := Rd.cells HR51.out
                          clear e0 e1 e2
                          obtain ⟨er, her⟩ : ∃ er, (Plain.endSt st).er = er := ⟨_, rfl⟩
                          obtain ⟨ea, hea⟩ : ∃ ea, (Plain.endSt st).ea = ea := ⟨_, rfl⟩
                          rw [her] at e4 hne0
                          rw [hea] at e5
                          rw [her, hea] at HFE
                          have hq : (er != 0) = true := by simpa using hne0
                          clear HST HQ her hea hne0 he1 e3 hg51 HR50 HX50
                          go_wp2_with fail
                          go_region
                          all_goals
                            go_wp2_with fail
                            obtain ⟨W, hW, hA, hC, hBB, -, -⟩ := set_all HP1.out rfl HP2.out (by omega) HBW5.out (Nat.le_refl _) (by omega) (.int .i64 0) (.int .i64 0) (.bool false) (.int .i64 0) (.int .i64 0) (.int .i64 0) (.int .i64 0) (.int .i64 0) (.int .i64 0) (.slice none 0 0) (.int .i64 0) (.int .i64 0) (.int .i64 0) (.string ⟨#[]⟩) (.int .i64 er) (.int .i64 ea)
                            rw [hW, HFE.out]
                            exact rparse_ret rfl rfl hA.drew hC.drew (World.ownsRow_nil _ _ _ _) hBB.drew
                        · have he1 : Plain.endSt st = st := if_neg hmo
                          have hmo' : st.more = false := by simpa using hmo
                          have HP1 := Lib.hid (HB1.out.below HB50.out (by omega))
                          have HP2 := Lib.hid (HB2.out.below HB50.out (by omega))
                          have HBW5 := Lib.hid (HBW.out.trans (HB50.out.mono (by omega)))
                          have hlt5 := Rd.lt HR50.out
                          have hs1 : w.heap.size < w50.heap.size := by omega
                          have hs2 : w.heap.size + 1 < w50.heap.size := by omega
                          obtain ⟨x0, x1, x2, x3, x4, x5, x6, x7, x8, x9, x10, x11, x12, x13⟩ := HP1.out.zeros
                          have y0 := HP2.out.cell 0
                          have y1 := HP2.out.cell 1
                          have f1 := HP1.out.frozen
                          have f2 := HP2.out.frozen
                          have f3 := Rd.frozen HR50.out
                          obtain ⟨e0, e1, e2, e3, e4, e5⟩ := Rd.cells HR50.out
                          clear e0 e1 e2
                          rw [hmo'] at e3
                          obtain ⟨er, her⟩ : ∃ er, st.er = er := ⟨_, rfl⟩
                          obtain ⟨ea, hea⟩ : ∃ ea, st.ea = ea := ⟨_, rfl⟩
                          rw [her] at e4
                          rw [hea] at e5
                          by_cases h0 : er = 0
                          · have HF := Lib.hid (Plain.fieldsP_ok (s := s) (e := k) (k := 1) (by rw [HST.out, he1, her, h0]))
                            rw [h0] at e4
                            have hxx := HX50.out
                            rw [HQ.out (by rw [he1, her, h0])] at hxx
                            have hkk : (Plain.bodySn s k 1).kind = 1 := rfl
                            have how := HO50.out
                            rw [show zs = (Plain.bodySn s k 1).prns from HZS.out (her.trans h0)] at how
                            have HO6 := Lib.hid how; clear how HO50 HZS
                            generalize Plain.bodySn s k 1 = sn at *
                            obtain ⟨z0, z1, z2, z3, z4, z5, z6, z7, z8, z9, z10, z11, z12, z13⟩ := Blk.cells14 hxx
                            rw [hkk] at z0
                            have HKK := Lib.hid hkk
                            clear hkk hxx HQ HST her hea h0 he1 HX50
                            go_wp2_with fail
                            obtain ⟨W, hW, hA, hC, hBB, hsz, hoth⟩ := set_all HP1.out rfl HP2.out (by omega) HBW5.out (Nat.le_refl _) (by omega) (.int .i64 1) (.int .i64 sn.time) (.bool sn.ok) (.int .i64 sn.p0) (.int .i64 sn.p1) (.int .i64 sn.p2) (.int .i64 sn.l0) (.int .i64 sn.l1) (.int .i64 sn.l2) (.slice A5 n5 c5) (.int .i64 sn.prn) (.int .i64 sn.lag) (.int .i64 sn.power) (.string sn.text) (.int .i64 0) (.int .i64 0)
                            rw [hW, HF.out]
                            have hA2 : Blk W w.heap.size 28 (snCells sn (.slice A5 n5 c5)) := by unfold snCells; rw [HKK.out]; exact hA
                            exact rparse_ret rfl rfl hA2 hC (own_base (own_other HO6.out (by omega) (by omega) hoth) (by omega)) hBB
                          · have hq : (er != 0) = true := by simpa using h0
                            have HFE := Lib.hid (Plain.fieldsP_er (s := s) (e := k) (k := 1) (by rw [HST.out, he1, her]; exact h0))
                            rw [HST.out, he1, her, hea] at HFE
                            clear HST HQ her hea h0 he1 HX50
                            go_wp2_with fail
                            go_region
                            all_goals
                              go_wp2_with fail
                              obtain ⟨W, hW, hA, hC, hBB, -, -⟩ := set_all HP1.out rfl HP2.out (by omega) HBW5.out (Nat.le_refl _) (by omega) (.int .i64 0) (.int .i64 0) (.bool false) (.int .i64 0) (.int .i64 0) (.int .i64 0) (.int .i64 0) (.int .i64 0) (.int .i64 0) (.slice none 0 0) (.int .i64 0) (.int .i64 0) (.int .i64 0) (.string ⟨#[]⟩) (.int .i64 er) (.int .i64 ea)
                              rw [hW, HFE.out]
                              exact rparse_ret rfl rfl hA.drew hC.drew (World.ownsRow_nil _ _ _ _) hBB.drew
end Go.Proofs.YteeekdffbcbamaaGreatDoor
