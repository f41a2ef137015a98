/-
  WALKS: the reference's Parse: a wrong checksum.
-/
import Derived.Test.YteeekdffbcbamaaGreatDoorRPsB
namespace Go.Proofs.YteeekdffbcbamaaGreatDoor
open Go.RowKit

theorem qleft {P : Program} {f : FuncId} {args : Array Value} {w : World} {n : Nat} {v : Value} (h : Calls P f args (w.drewN n) fun e w' => e = .returned v ∧ w.drewN n = w') : Calls P f args (w.drewN n) fun e w'' => e = .returned v ∧ ∃ m, w'' = w.drewN m :=
  h.mono fun _ _ ⟨he, hw⟩ => ⟨he, n, hw.symm⟩
set_option maxRecDepth 100000 in
set_option maxHeartbeats 4000000 in
theorem rp_bad (s : ByteArray) (w : World) (h : s.size ≤ 500) (hd : s.data.toList.head? = some 36) (e : Nat) (he : Plain.starN s = e) (hx : 0 ≤ Plain.hexAt s (e + 1)) (hy : 0 ≤ Plain.hexAt s (e + 2)) (c1 : s.size ≤ e + 3) (hm : (Plain.sumN (s.extract 1 e).data.toList : Int) ≠ 16 * Plain.hexAt s (e + 1) + Plain.hexAt s (e + 2)) : Calls Tryz.prog 15 #[.string s] w (ParsePost w (Plain.zeroSn, 14, (e : Int) + 1)) := by
  have h1' := Plain.hexAt_lt hx
  have h2' := Plain.hexAt_lt hy
  rw [Plain.hexAt_get h1', Plain.hexAt_get h2'] at hm
  have h1 := Plain.hexAt_lt hx
  have h2 := Plain.hexAt_lt hy
  have he1 : 1 ≤ e := by rw [← he]; exact Plain.star_pos hd
  have hle := Plain.starN_le s
  rw [he] at hle
  have h0 : 0 < s.size := by
    have := Plain.len_size s
    cases hl : s.data.toList with
    | nil => rw [hl] at hd; cases hd
    | cons x r => rw [hl] at this; simp at this; omega
  have hc := head_at hd h0
  have hc2 : s[0].toNat < 256 := s[0].toNat_lt
  have h0' : (0 : Int) < s.size := by omega
  have q0 : ((s.size : Int) == 0) = false := beq_eq_false_iff_ne.2 (by omega)
  have q1 : ((s[0].toNat : Int) != 36) = false := by rw [bne_eq_false_iff_eq]; omega
  have HNE := Lib.hid (fun k (hk : k < s.size) (h : k < e) => star_ne hk (by rw [he]; exact h))
  have HAT := Lib.hid (fun (hk : e < s.size) => star_at he hk)
  clear hc hd he
  rw [Plain.hexAt_get h1] at hx
  rw [Plain.hexAt_get h2] at hy
  have HX := Lib.hid (fun W => rdigit_any s[e + 1] W)
  have hcx : s[e + 1].toNat < 256 := s[e + 1].toNat_lt
  have HXb := Lib.hid (fun W => rdigit_any s[e + 2] W)
  have hcxb : s[e + 2].toNat < 256 := s[e + 2].toNat_lt
  have hz15 := (Plain.hexZ_ge s[e + 1]).2
  have hy15 := (Plain.hexZ_ge s[e + 2]).2
  generalize Plain.hexZ s[e + 1] = z at hx HX hm hz15
  generalize Plain.hexZ s[e + 2] = y at hy HXb hm hy15
  obtain ⟨F, hF⟩ : ∃ F, s.extract 1 e = F := ⟨_, rfl⟩
  have hFs : F.size ≤ 1000000 := by rw [← hF, ByteArray.size_extract]; omega
  have HM := Lib.hid (fun W => rsum_any F W hFs)
  rw [hF] at hm
  have hsb := Plain.sumN_lt F.data.toList
  generalize Plain.sumN F.data.toList = m at hm HM hsb
  have HF := Lib.hid hF; clear hF
  obtain ⟨q, hq⟩ : ∃ q, 16 * z + y = q := ⟨_, rfl⟩
  have hq1 : 0 ≤ q ∧ q ≤ 255 := by omega
  rw [hq] at hm
  have HQ := Lib.hid hq; clear hq
  have w1' : IntKind.i64.wrap (16 * z) = 16 * z := IntWalk.i64_in _ (by omega)
  have HWQ := Lib.hid (show IntKind.i64.wrap (16 * z + y) = q by rw [HQ.out]; exact IntWalk.i64_in _ (by omega))
  have HW1 := Lib.hid w1'; clear w1'
  have c3 : ((m : Int) != q) = true := by rw [bne_iff_ne]; exact hm
  clear hm
  go_enter Tryz.func15, Tryz.ntmps15
  go_wp2_with fail
  go_loop [4] (fun i => ∃ k : Nat, k ≤ e ∧ i = .int .i64 k) (fun i => e - (intOf i).toNat)
  case atStart => exact ⟨0, Nat.zero_le _, rfl⟩
  case round =>
    obtain ⟨k, hk, rfl⟩ := hrel
    by_cases hlt : k < e
    · have hks : k < s.size := by omega
      have hne := HNE.out k hks hlt
      have hkc : s[k].toNat < 256 := s[k].toNat_lt
      have q2 : ((s[k].toNat : Int) != 42) = true := by rw [bne_iff_ne]; omega
      clear hne
      go_wp2_with fail
      go_round
      case rel => exact ⟨k + 1, by omega, by go_num⟩
      case measure => simp [intOf]; omega
    · obtain rfl : k = e := by omega
      clear hk hlt
      have hat := HAT.out (by omega)
      have q2 : ((s[k].toNat : Int) != 42) = false := by rw [bne_eq_false_iff_eq]; omega
      have hkc : s[k].toNat < 256 := s[k].toNat_lt
      have q3 : ((k : Int) == s.size) = false := beq_eq_false_iff_ne.2 (by omega)
      clear hat
      go_wp2_with fail
      go_loop [5] (fun i => i = .int .i64 ((k : Int) + 1) ∨ i = .int .i64 ((k : Int) + 2) ∨ i = .int .i64 ((k : Int) + 3)) (fun i => k + 3 - (intOf i).toNat)
      case atStart => exact Or.inl rfl
      case round =>
        rcases hrel with rfl | rfl | rfl
        · go_wp2_with fail
          refine (HX.out _).mono ?_
          rintro en w1 ⟨rfl, rfl⟩
          go_wp2_with fail
          go_round
          case rel => exact Or.inr (Or.inl (by go_num))
          case measure => simp [intOf]; omega
        · go_wp2_with fail
          refine (HXb.out _).mono ?_
          rintro en w1 ⟨rfl, rfl⟩
          go_wp2_with fail
          go_round
          case rel => exact Or.inr (Or.inr (by go_num))
          case measure => simp [intOf]; omega
        · have a1 : IntKind.i64.wrap ((k : Int) + 1) = (k : Int) + 1 := IntWalk.i64_in _ (by omega)
          have a2 : IntKind.i64.wrap ((k : Int) + 2) = (k : Int) + 2 := IntWalk.i64_in _ (by omega)
          have b1 : ((k : Int) + 1).toNat = k + 1 := by omega
          have b2 : ((k : Int) + 2).toNat = k + 2 := by omega
          have d1 : (k : Int) + 1 < s.size := by omega
          have d2 : (k : Int) + 2 < s.size := by omega
          have e1 : (1 : Int) ≤ k := by omega
          have e2 : (k : Int) ≤ s.size := by omega
          have f1 : (0 : Int) ≤ (k : Int) + 1 := by omega
          have f2 : (0 : Int) ≤ (k : Int) + 2 := by omega
          have w1 := HW1.out
          have w2 := HWQ.out
          have w3 := HF.out
          go_wp2_with fail
          go_quiet ((first | (go_at_call 18; with_reducible exact qleft (HM.out _)) | (go_at_call 35; with_reducible exact qleft (HX.out _)) | (go_at_call 35; with_reducible exact qleft (HXb.out _))))
          clear w1 w2 w3
          obtain ⟨w5, hw5⟩ : ∃ w5, ((w.alloc (.cells #[.int .i64 0, .int .i64 0, .bool false, .int .i64 0, .int .i64 0, .int .i64 0, .int .i64 0, .int .i64 0, .int .i64 0, .slice none 0 0, .int .i64 0, .int .i64 0, .int .i64 0, .string ⟨#[]⟩] 28)).alloc (.cells #[.int .i64 0, .int .i64 0] 39)).drewN nq = w5 := ⟨_, rfl⟩
          have hb1 : Blk w5 w.heap.size 28 zeroX := hw5 ▸ Blk.alloc (heap_alloc_new w _) _
          have hb2 : Blk w5 (w.heap.size + 1) 39 #[.int .i64 0, .int .i64 0] := hw5 ▸ heap_new_at (w.alloc _) _ _ (by simp)
          have hbw : Below w.heap.size w w5 := hw5 ▸ ⟨rfl, rfl, rfl, (((Below.refl _ _).alloc (Nat.le_refl _) (.cells #[.int .i64 0, .int .i64 0, .bool false, .int .i64 0, .int .i64 0, .int .i64 0, .int .i64 0, .int .i64 0, .int .i64 0, .slice none 0 0, .int .i64 0, .int .i64 0, .int .i64 0, .string ⟨#[]⟩] 28)).alloc (by simp) (.cells #[.int .i64 0, .int .i64 0] 39)).size, (((Below.refl _ _).alloc (Nat.le_refl _) (.cells #[.int .i64 0, .int .i64 0, .bool false, .int .i64 0, .int .i64 0, .int .i64 0, .int .i64 0, .int .i64 0, .int .i64 0, .slice none 0 0, .int .i64 0, .int .i64 0, .int .i64 0, .string ⟨#[]⟩] 28)).alloc (by simp) (.cells #[.int .i64 0, .int .i64 0] 39)).block⟩
          rw [hw5]
          have hl1 := hb1.lt
          have hl2 := hb2.lt
          obtain ⟨x0, x1, x2, x3, x4, x5, x6, x7, x8, x9, x10, x11, x12, x13⟩ := hb1.zeros
          have y0 := hb2.cell 0
          have y1 := hb2.cell 1
          have g1 := hb1.frozen
          have g2 := hb2.frozen
          have HB1 := Lib.hid hb1; clear hb1
          have HB2 := Lib.hid hb2; clear hb2
          have HBW := Lib.hid hbw; clear hbw hw5
          go_wp2_with fail
          obtain ⟨W, hW, hA, hC, hBB, -, -⟩ := set_all HB1.out rfl HB2.out (by omega) HBW.out (Nat.le_refl _) (by omega) (.int .i64 0) (.int .i64 0) (.bool false) (.int .i64 0) (.int .i64 0) (.int .i64 0) (.int .i64 0) (.int .i64 0) (.int .i64 0) (.slice none 0 0) (.int .i64 0) (.int .i64 0) (.int .i64 0) (.string ⟨#[]⟩) (.int .i64 14) (.int .i64 ((k : Int) + 1))
          rw [hW]
          exact rparse_ret (v := .slice none 0 0) rfl rfl hA hC (World.ownsRow_nil _ _ _ _) hBB
end Go.Proofs.YteeekdffbcbamaaGreatDoor
