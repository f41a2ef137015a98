/-
  WALKS: the reference's Check of a fix.
-/
import Derived.Test.YteeekdffbcbamaaGreatDoorRChkD
namespace Go.Proofs.YteeekdffbcbamaaGreatDoor
open Go.RowKit
theorem posCell2 {w : World} {g : Nat} {t : TypeId} {x : Plain.Sn} {c0 c1 c2 c9 c10 c11 c12 c13 : Value} (h : Blk w g t #[c0, c1, c2, .int .i64 x.p0, .int .i64 x.p1, .int .i64 x.p2, .int .i64 x.l0, .int .i64 x.l1, .int .i64 x.l2, c9, c10, c11, c12, c13]) {k : Nat} (hk : k < 3) :
    w.cell? ⟨g, 3 + k, none⟩ = some (.int .i64 (Plain.pos x k)) ∧ w.cell? ⟨g, 6 + k, none⟩ = some (.int .i64 (Plain.lev x k)) := by
  have h3 : k = 0 ∨ k = 1 ∨ k = 2 := by omega
  rcases h3 with rfl | rfl | rfl
  · exact ⟨h.cell 3, h.cell 6⟩
  · exact ⟨h.cell 4, h.cell 7⟩
  · exact ⟨h.cell 5, h.cell 8⟩
set_option maxRecDepth 100000 in
set_option maxHeartbeats 4000000 in
theorem rcheck_fix (x : Plain.Sn) (A : Option Addr) (n c : Nat) (w : World) (hk : x.kind = 1) (ht : Plain.inR x.time 0 604799999 = true) (hf : Plain.fixOnly x) (hn : x.prns.length = n) (hN : PrL w A x.prns) (hnm : n ≤ 9223372036854775807) :
    Calls Tryz.prog 22 #[.agg (snCells x (.slice A n c))] w (CheckPost w (Plain.fixE x)) := by
  obtain ⟨R, hR⟩ : ∃ R, Plain.fixE x = R := ⟨_, rfl⟩
  rw [hR]
  have HR := Lib.hid hR; clear hR
  have HLN := Lib.hid hn
  obtain ⟨f1, f2, f3, f4⟩ := hf
  have HT := Lib.hid (fun W => rwithin_any x.time 0 604799999 true W ht)
  have q1 : x.text.toList = [] := by rw [ByteArray.toList_eq]; exact f4
  have q2 : x.text.toList.isEmpty = true := by rw [q1]; rfl
  have HPR := Lib.hid (fun W h => rprns_any x.prns A n c W hn h hnm)
  unfold snCells
  rw [hk, f1, f2, f3]
  clear hk ht f1 f2 f3 f4 hn
  go_enter Tryz.func22, Tryz.ntmps22
  go_wp2_with fail
  refine (HT.out _).mono ?_
  rintro en w1 ⟨rfl, rfl⟩
  go_upto_region 8 with (fail)
  obtain ⟨w2, hw2⟩ : ∃ w2, (w.alloc (.cells #[.int .i64 1, .int .i64 x.time, .bool x.ok, .int .i64 x.p0, .int .i64 x.p1, .int .i64 x.p2, .int .i64 x.l0, .int .i64 x.l1, .int .i64 x.l2, .slice A n c, .int .i64 0, .int .i64 0, .int .i64 0, .string x.text] 28)).alloc (.cells #[.int .i64 0, .int .i64 0, .int .i64 0] 26) = w2 := ⟨_, rfl⟩
  have hX : Blk w2 w.heap.size 28 #[.int .i64 1, .int .i64 x.time, .bool x.ok, .int .i64 x.p0, .int .i64 x.p1, .int .i64 x.p2, .int .i64 x.l0, .int .i64 x.l1, .int .i64 x.l2, .slice A n c, .int .i64 0, .int .i64 0, .int .i64 0, .string x.text] := hw2 ▸ Blk.alloc (heap_alloc_new w _) _
  have hB : Below w.heap.size w w2 := hw2 ▸ two_alloc
  rw [hw2]
  clear hw2 q1 q2
  have k0 := hX.cell 0
  have k9 := hX.cell 9
  have HX := Lib.hid hX
  have HB := Lib.hid hB
  have HN := Lib.hid (hN.below hB (Nat.le_refl _))
  clear hX hB hN
  go_wp2_with fail
  go_loop [4] (fun i => ∃ k : Nat, k ≤ 3 ∧ i = .int .i64 k ∧ Hid (∀ j, j < k → Plain.levB x j = true)) (fun i => 3 - (intOf i).toNat)
  case atStart => exact ⟨0, by omega, rfl, Lib.hid (fun j hj => absurd hj (by omega))⟩
  case round =>
    obtain ⟨k, hk, rfl, hA⟩ := hrel
    by_cases hlt : k < 3
    · obtain ⟨cp, cl⟩ := posCell2 HX.out hlt
      obtain ⟨r1, h1⟩ : ∃ r, Plain.inR (Plain.pos x k) (-10000000000000) 10000000000000 = r := ⟨_, rfl⟩
      obtain ⟨r2, h2⟩ : ∃ r, Plain.inR (Plain.lev x k) 0 10000000000000 = r := ⟨_, rfl⟩
      have hlev : Plain.levB x k = (r1 && r2) := by unfold Plain.levB; rw [h1, h2]
      have HLV := Lib.hid hlev; clear hlev
      have H1 := Lib.hid (fun W => rwithin_any _ _ _ _ W h1); clear h1
      have H2 := Lib.hid (fun W => rwithin_any _ _ _ _ W h2); clear h2
      generalize Plain.pos x k = pk at *
      generalize Plain.lev x k = lk at *
      have hno : (r1 && r2) = false → R = 2 := fun h => by rw [← HR.out, Plain.fixE, if_pos (Plain.levelB_no hlt (HLV.out.trans h))]
      cases r1
      · obtain rfl : R = 2 := hno rfl
        clear hno
        go_wp2_with fail
        refine (H1.out _).mono ?_
        rintro en w2 ⟨rfl, rfl⟩
        go_wp2_with fail
        go_ret
        exact ⟨rfl, HB.out⟩
      · cases r2
        · obtain rfl : R = 2 := hno rfl
          clear hno
          go_wp2_with fail
          refine (H1.out _).mono ?_
          rintro en w2 ⟨rfl, rfl⟩
          go_wp2_with fail
          refine (H2.out _).mono ?_
          rintro en w2 ⟨rfl, rfl⟩
          go_wp2_with fail
          go_ret
          exact ⟨rfl, HB.out⟩
        · clear hno
          go_wp2_with fail
          refine (H1.out _).mono ?_
          rintro en w2 ⟨rfl, rfl⟩
          go_wp2_with fail
          refine (H2.out _).mono ?_
          rintro en w2 ⟨rfl, rfl⟩
          go_wp2_with fail
          go_round
          case rel => exact ⟨k + 1, by omega, by go_num, Lib.hid (fun j hj => by
            by_cases hjk : j < k
            · exact hA.out j hjk
            · obtain rfl : j = k := by omega
              exact HLV.out)⟩
          case measure => simp [intOf]; omega
    · obtain rfl : k = 3 := by omega
      have HLB := Lib.hid (Plain.levelB_yes hA.out)
      have hR : (if 16 < x.prns.length then 4 else Plain.prnsE 0 x.prns) = R := by
        have := HR.out
        rw [Plain.fixE, if_neg (by rw [HLB.out]; decide)] at this
        exact this
      have hP := HPR.out w2 HN.out
      rw [hR] at hP
      have HPP := Lib.hid hP
      clear hk hlt hA hR hP
      go_wp2_with fail
      refine HPP.out.mono ?_
      rintro en w3 ⟨rfl, mm, rfl⟩
      go_wp2_with fail
      go_ret
      exact ⟨rfl, ⟨HB.out.os, HB.out.tape, HB.out.output, HB.out.size, HB.out.block⟩⟩
end Go.Proofs.YteeekdffbcbamaaGreatDoor
