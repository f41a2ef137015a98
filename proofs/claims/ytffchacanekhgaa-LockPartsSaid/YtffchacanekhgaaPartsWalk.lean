/-
  WALK: LockParts returns true.
-/
import Derived.Test.YtffchacanekhgaaKnownWalk
import Derived.Test.YtffchacanekhgaaSteps1
import Derived.Test.YtffchacanekhgaaOpt
import Derived.Deep.CutRange
import Derived.Deep.CutBlock
import Derived.Deep.RegionWith
import Derived.StillTailTactics
import Derived.Outline
namespace Go.Proofs.Ytffchacanekhgaa
open Go.RowKit

theorem add_add' (a : Addr) (i j : Nat) : (a.add i).add j = a.add (i + j) := by
  unfold Addr.add
  by_cases hi : i = 0
  · by_cases hj : j = 0 <;> simp [hi, hj]
  · by_cases hj : j = 0
    · simp [hi, hj]
    · simp [hi, hj, Nat.add_assoc]
theorem ReadsB.take {w : World} {B : Nat} {A : Option Addr} {cs : List Bool} (h : ReadsB w B A cs) (q : Nat) : ReadsB w B A (cs.take q) := fun j hj => by
  have hj2 : j < cs.length := by simp at hj; omega
  obtain ⟨ad, e, h1, h2⟩ := h j hj2
  exact ⟨ad, e, h1, by rw [h2]; simp⟩
theorem ReadsB.drop {w : World} {B : Nat} {ad : Addr} {cs : List Bool} (h : ReadsB w B (some ad) cs) (q : Nat) : ReadsB w B (some (ad.add q)) (cs.drop q) := fun j hj => by
  have hj2 : q + j < cs.length := by simp at hj; omega
  obtain ⟨ad', e, h1, h2⟩ := h (q + j) hj2
  cases e
  exact ⟨ad.add q, rfl, by rw [add_block]; exact h1, by rw [add_add', h2]; simp⟩

theorem parts_long (a0 a1 a2 : Int) (A : Option Addr) (k c : Nat) (w : World) (hk : 200 < k) :
    Calls Try.prog 7 #[.int .i64 a0, .int .i64 a1, .int .i64 a2, .slice A k c] w fun e w' => e = .returned (.bool true) ∧ Below w.heap.size w w' := by
  go_enter Try.func7, Try.ntmps7
  go_wp2_with fail
  refine (lockKnown_walk _).mono ?_
  rintro e w1 ⟨rfl, hb1⟩
  go_wp2_with fail
  go_ret
  exact ⟨rfl, hb1⟩

set_option maxRecDepth 20000 in
set_option maxHeartbeats 16000000 in
theorem parts_some (a0 a1 a2 : Int) (ad : Addr) (k c q : Nat) (cs : List Bool) (w : World) (hk : k ≤ 200) (hl : cs.length = k) (hc : k ≤ c) (hr : ReadsB w w.heap.size (some ad) cs)
    (nn mm : Int) (h0 : a0 % 100 = nn) (h1 : a1 % 100 = mm) (h2 : a2 % (k + 1) = q) :
    Calls Try.prog 7 #[.int .i64 a0, .int .i64 a1, .int .i64 a2, .slice (some ad) k c] w fun e w' => e = .returned (.bool true) ∧ Below w.heap.size w w' := by
  have P0 := Lib.hid (fun W => pick_is a0 100 nn h0 W (by decide) (by decide))
  have P1 := Lib.hid (fun W => pick_is a1 100 mm h1 W (by decide) (by decide))
  have P2 := Lib.hid (fun W => pick_is a2 (k + 1) q h2 W (by omega) (by omega))
  have b0 : 0 ≤ nn ∧ nn < 100 := by omega
  have b1 : 0 ≤ mm ∧ mm < 100 := by omega
  have hqk : q ≤ k := by
    have := Int.emod_lt_of_pos a2 (b := (k : Int) + 1) (by omega)
    omega
  obtain ⟨b01, b02⟩ := b0
  obtain ⟨b11, b12⟩ := b1
  clear h0 h1 h2
  have hnd := Plain.needB_of (1 + nn) (1 + mm) (by omega) (by omega) (by omega) (by omega)
  have hchk : Plain.chk (1 + nn) (1 + mm) 0 0 false = 0 := by rw [Plain.chk_new, Plain.newE, hnd]; rfl
  have H13 := Lib.hid (fun W => new13_is (1 + nn) (1 + mm) (1 + nn) (1 + mm) 0 (by rw [Plain.newN, hnd]; rfl) (by rw [Plain.newM, hnd]; rfl) (by rw [Plain.newE, hnd]; rfl) W)
  have hdec : cs = cs.take q ++ cs.drop q := (List.take_append_drop q cs).symm
  have hchkx := Plain.chk_run (1 + nn) (1 + mm) (0, 0, false) (cs.take q) hchk
  have hSS := Plain.runS_append (1 + nn) (1 + mm) (0, 0, false) (cs.take q) (cs.drop q)
  have hLL := Plain.runL_append (1 + nn) (1 + mm) (0, 0, false) (cs.take q) (cs.drop q)
  rw [← hdec] at hSS hLL
  obtain ⟨⟨ux, dx, bx⟩, hSx⟩ : ∃ S : Plain.St, Plain.runS (1 + nn) (1 + mm) (0, 0, false) (cs.take q) = S := ⟨_, rfl⟩
  rw [hSx] at hSS hLL hchkx
  obtain ⟨⟨u', d', b'⟩, hS⟩ : ∃ S : Plain.St, Plain.runS (1 + nn) (1 + mm) (0, 0, false) cs = S := ⟨_, rfl⟩
  rw [hS] at hSS
  obtain ⟨L, hL⟩ : ∃ L, Plain.runL (1 + nn) (1 + mm) (0, 0, false) cs = L := ⟨_, rfl⟩
  obtain ⟨Lx, hLx⟩ : ∃ L, Plain.runL (1 + nn) (1 + mm) (0, 0, false) (cs.take q) = L := ⟨_, rfl⟩
  obtain ⟨Ly, hLy⟩ : ∃ L, Plain.runL (1 + nn) (1 + mm) (ux, dx, bx) (cs.drop q) = L := ⟨_, rfl⟩
  rw [hL, hLx, hLy] at hLL
  have H10 := Lib.hid (fun W h => run10_own (1 + nn) (1 + mm) 0 0 false (some ad) k c cs u' d' b' L W hl (by omega) hchk hS hL h)
  have H10x := Lib.hid (fun A' c' W h => run10_own (1 + nn) (1 + mm) 0 0 false A' q c' (cs.take q) ux dx bx Lx W (by simp; omega) (by omega) hchk hSx hLx h)
  obtain ⟨mz, hmz⟩ : ∃ m, k - q = m := ⟨_, rfl⟩
  have H10y := Lib.hid (fun A' c' W h => run10_own (1 + nn) (1 + mm) ux dx bx A' mz c' (cs.drop q) u' d' b' Ly W (by simp; omega) (by omega) hchkx hSS.symm hLy h)
  have HLL := Lib.hid hLL
  have HPS := Lib.hid (part_step (1 + nn) (1 + mm) cs L hL hchk)
  have hlx : Lx.length = q := by rw [← hLx, Plain.runL_length]; simp; omega
  have hly : Ly.length = mz := by rw [← hLy, Plain.runL_length]; simp; omega
  have HLX := Lib.hid hlx; clear hlx
  have HLY := Lib.hid hly; clear hly
  have HSA := Lib.hid hS
  clear hS hL hSx hLx hLy hSS hLL hdec hnd hchkx
  have HV := Lib.hid hchk; clear hchk
  have HR := Lib.hid hr; clear hr
  have HMZ := Lib.hid hmz; clear hmz
  have HL := Lib.hid hl; clear hl
  obtain ⟨i0, hi, hz0, hz1, hz2⟩ := info_parts info4
  go_enter Try.func7, Try.ntmps7
  go_wp2_with fail
  refine (lockKnown_walk _).mono ?_
  rintro e w1 ⟨rfl, hb1⟩
  go_wp2_with fail
  refine (P0.out _).mono ?_
  rintro e w2 ⟨rfl, rfl⟩
  go_wp2_with fail
  refine (P1.out _).mono ?_
  rintro e w2 ⟨rfl, rfl⟩
  go_wp2_with fail
  refine (H13.out _).mono ?_
  rintro e w2 ⟨rfl, hb2⟩
  have k2 := balloc (bthen hb1 hb2) (.cells #[.int .i64 (1 + nn), .int .i64 (1 + mm), .int .i64 0, .int .i64 0, .bool false] 23)
  have hk2 := k2.size
  have hww := (bthen hb1 hb2).size
  have K2 := Lib.hid k2; clear k2
  go_wp2_with fail
  refine (P2.out _).mono ?_
  rintro e w2 ⟨rfl, rfl⟩
  go_wp2_with fail
  refine (H10.out _ ?ha).mono ?_
  case ha => exact (HR.out.below K2.out).more hk2
  rintro e w3 ⟨A1, c1, rfl, hr1, hf1, _, hl1, hb3⟩
  have HF1 := Lib.hid hf1; clear hf1
  have k3 := balloc (bthen K2.out hb3) (.cells #[.int .i64 (1 + nn), .int .i64 (1 + mm), .int .i64 u', .int .i64 d', .bool b'] 23)
  have l10 : Lkb (w3.alloc (.cells #[.int .i64 (1 + nn), .int .i64 (1 + mm), .int .i64 u', .int .i64 d', .bool b'] 23)) w2.heap.size (1 + nn) (1 + mm) 0 0 false := ((show Lkb (w2.alloc _) w2.heap.size _ _ _ _ _ from heap_new_at _ _ _ rfl).below hb3 (by simp)).alloc _
  have l12 : Lkb (w3.alloc (.cells #[.int .i64 (1 + nn), .int .i64 (1 + mm), .int .i64 u', .int .i64 d', .bool b'] 23)) w3.heap.size (1 + nn) (1 + mm) u' d' b' := heap_new_at _ _ _ rfl
  have hne : w2.heap.size < w3.heap.size := by have := hb3.size; simp at this; omega
  have HX := Lib.hid ((hr1.below (below1 w3 (.cells #[.int .i64 (1 + nn), .int .i64 (1 + mm), .int .i64 u', .int .i64 d', .bool b'] 23))).more (B' := (w3.alloc (.cells #[.int .i64 (1 + nn), .int .i64 (1 + mm), .int .i64 u', .int .i64 d', .bool b'] 23)).heap.size) (by simp))
  have HA := Lib.hid ((HR.out.below k3).more k3.size)
  have K3 := Lib.hid k3; clear k3 hr1
  have H12 := Lib.hid (show ∀ A' c' W, ReadsB W W.heap.size A1 L → ReadsB W W.heap.size A' L → Calls Try.prog 12 #[.slice A1 k c1, .slice A' k c'] W fun e w' => e = .returned (.bool true) ∧ Below W.heap.size W w' from fun A' c' W h h' => by
    have := same_yes A1 A' c1 c' L W h h' (by omega)
    rwa [hl1] at this)
  have HL1 := Lib.hid hl1; clear hl1
  go_upto_region 7 with (fail)
  generalize w3.alloc (.cells #[.int .i64 (1 + nn), .int .i64 (1 + mm), .int .i64 u', .int .i64 d', .bool b'] 23) = wA at HX HA K3 l10 l12 ⊢
  obtain ⟨c0, c1', c2, c3, c4⟩ := l10.cells
  have hlt10 := l10.lt
  have L10 := Lib.hid l10; clear l10
  have L12 := Lib.hid l12; clear l12
  have HAx := Lib.hid (HA.out.take q)
  have HAy := Lib.hid (HA.out.drop q)
  go_cut [15, 16, 17] from 24 to 142 (fun s15 s16 s17 wx => Ran wA (1 + nn) (1 + mm) ux dx bx q Lx s15 s16 s17 wx)
  case first =>
    rename_i J K' hJ hK
    have HJ := Lib.hid hJ; clear hJ
    go_region_with (go_at_call 10; refine (H10x.out _ _ _ ?_).mono ?_; (first
      | (exact HAx.out; rintro e w4 ⟨A2, cx, rfl, hr2, hf2, h02, hl2, hb4⟩)
      | (exact (HAx.out.below (below1 _ _)).more (by simp); rintro e w4 ⟨A2, cx, rfl, hr2, hf2, h02, hl2, hb4⟩; have q0 := hb4.cell (p := ⟨wA.heap.size, 0, none⟩) (by simp); have q1 := hb4.cell (p := ⟨wA.heap.size, 1, none⟩) (by simp); have q2 := hb4.cell (p := ⟨wA.heap.size, 2, none⟩) (by simp); have q3 := hb4.cell (p := ⟨wA.heap.size, 3, none⟩) (by simp); have q4 := hb4.cell (p := ⟨wA.heap.size, 4, none⟩) (by simp); have qf := fun i => hb4.frozen (p := ⟨wA.heap.size, i, none⟩) (by simp); have qs := hb4.size)))
    all_goals
      go_wp2_with fail
      have hJ := HJ.out
      go_meet
      first
        | with_reducible exact ran_a hr2 hf2 h02 hb4
        | with_reducible exact ran_b hr2 hf2 h02 hb4
  case rest =>
    obtain ⟨g15, A2, cx, rfl, rfl, rfl, hg15, l15, hr2, hf2, h02, hb4⟩ := hcut
    obtain ⟨wB, rfl⟩ : ∃ wo : World, wo = wc := ⟨_, rfl⟩
    have HAB := Lib.hid (show ReadsB wB wB.heap.size (if c = q then some ad else some (ad.add q)) (cs.drop q) by
      by_cases hcq : c = q
      · rw [if_pos hcq]
        intro j hj
        have := HL.out
        simp at hj
        omega
      · rw [if_neg hcq]
        exact (HAy.out.below hb4).more hb4.size)
    have HR2 := Lib.hid hr2; clear hr2
    have HB4 := Lib.hid hb4; clear hb4
    have hlt12 := L12.out.lt
    have L10B := Lib.hid (L10.out.below HB4.out hlt10)
    have L12B := Lib.hid (L12.out.below HB4.out hlt12)
    have hsB := HB4.out.size
    have hgB := l15.lt
    obtain ⟨d0, d1, d2, d3, d4⟩ := l15.cells
    have L15 := Lib.hid l15; clear l15
    clear c0 c1' c2 c3 c4
    go_upto_region 8 with (fail)
    go_cut [18, 19, 20] from 24 to 142 (fun s18 s19 s20 wx => Ran wB (1 + nn) (1 + mm) u' d' b' mz Ly s18 s19 s20 wx)
    case first =>
      rename_i J K' hJ hK
      have HJ := Lib.hid hJ; clear hJ
      by_cases hcq : c = q
      all_goals
        first
          | (have hab := HAB.out; rw [if_pos hcq] at hab; clear HAB; have HAB := Lib.hid hab; clear hab; obtain rfl : mz = 0 := (by have := HMZ.out; omega); obtain rfl := hcq)
          | (have hab := HAB.out; rw [if_neg hcq] at hab; clear HAB; have HAB := Lib.hid hab; clear hab; have hmz := HMZ.out)
        go_region_with (go_at_call 10; refine (H10y.out _ _ _ ?_).mono ?_; (first
          | (exact HAB.out; rintro e w4 ⟨A3, cz, rfl, hr3, hf3, h03, hl3, hb5⟩)
          | (exact (HAB.out.below (below1 _ _)).more (by simp); rintro e w4 ⟨A3, cz, rfl, hr3, hf3, h03, hl3, hb5⟩; have q0 := hb5.cell (p := ⟨wB.heap.size, 0, none⟩) (by simp); have q1 := hb5.cell (p := ⟨wB.heap.size, 1, none⟩) (by simp); have q2 := hb5.cell (p := ⟨wB.heap.size, 2, none⟩) (by simp); have q3 := hb5.cell (p := ⟨wB.heap.size, 3, none⟩) (by simp); have q4 := hb5.cell (p := ⟨wB.heap.size, 4, none⟩) (by simp); have qf := fun i => hb5.frozen (p := ⟨wB.heap.size, i, none⟩) (by simp); have qs := hb5.size)))
        all_goals
          go_wp2_with fail
          have hJ := HJ.out
          go_meet
          first
            | with_reducible exact ran_a hr3 hf3 (fun h => ⟨by first | rfl | exact (h03 h).1, (h03 h).2⟩) hb5
            | with_reducible exact ran_b hr3 hf3 (fun h => ⟨by first | rfl | exact (h03 h).1, (h03 h).2⟩) hb5
    case rest =>
      obtain ⟨g18, A3, cz, rfl, rfl, rfl, hg18, l18, hr3, hf3, h03, hb5⟩ := hcut
      obtain ⟨wC, rfl⟩ : ∃ wo : World, wo = wc := ⟨_, rfl⟩
      have L10C := Lib.hid (L10B.out.below hb5 (by omega))
      have l12 := L12B.out.below hb5 (by omega)
      have BC := Lib.hid (HB4.out.trans (hb5.mono hsB))
      have HX1 := Lib.hid ((HX.out.below BC.out).more BC.out.size)
      have HX2 := Lib.hid ((HR2.out.below hb5).more hb5.size)
      have HX3 := Lib.hid hr3; clear hr3
      have HB5 := Lib.hid hb5; clear hb5
      have hlt18 := l18.lt
      have hlt12C := l12.lt
      have hlt10C := L10C.out.lt
      obtain ⟨e0, e1, e2, e3, e4⟩ := l12.cells
      obtain ⟨f0, f1, f2, f3, f4⟩ := l18.cells
      clear d0 d1 d2 d3 d4
      have q1 : (u' == u') = true := beq_iff_eq.2 rfl
      have q2 : (d' == d') = true := beq_iff_eq.2 rfl
      have q3 : (1 + nn == 1 + nn) = true := beq_iff_eq.2 rfl
      have q4 : (1 + mm == 1 + mm) = true := beq_iff_eq.2 rfl
      have R2 := HX2.out.below (below1 wC (.cells #[] 4))
      have R3 := Lib.hid HX3.out
      have H02 := Lib.hid h02; clear h02
      have H03 := Lib.hid h03; clear h03
      have hqk2 : q + mz = k := by have := HMZ.out; omega
      have HQ := Lib.hid hqk2; clear hqk2
      have HR2b := Lib.hid R2; clear R2
      have H3c := Lib.hid (fun (w5 : World) (hg : (wC.alloc (.cells #[] 4)).grownBy w5 (Value.slice (some ⟨wC.heap.size, 0, none⟩) 0 0).ownBlock) => (HX3.out.below (((Below.refl wC.heap.size wC).alloc (Nat.le_refl _) (.cells #[] 4)).grown hg (by simp) (fun j hj => by cases hj; exact Nat.le_refl _))).cells)
      have HB6 := Lib.hid (fun (w5 w6 : World) (v5 : Value) (hg : (wC.alloc (.cells #[] 4)).grownBy w5 (Value.slice (some ⟨wC.heap.size, 0, none⟩) 0 0).ownBlock) (n : Nat) (xs : List Value) (ho : w5.ownsRow wC.heap.size 4 1 v5 n xs) (hg6 : w5.grownBy w6 v5.ownBlock) => (((Below.refl wC.heap.size wC).alloc (Nat.le_refl _) (.cells #[] 4)).grown hg (by simp) (fun j hj => by cases hj; exact Nat.le_refl _)).grown hg6 (Nat.le_trans (by simp) hg.size) (own_block ho))
      go_upto_region 9 with (fail)
      go_cut [104] from 24 to 142 (fun s104 wx => s104 = .bool false ∧ Below wC.heap.size wC wx)
      case first =>
        rename_i J K' hJ hK
        have HJ := Lib.hid hJ; clear hJ
        go_wp2_with (first
          | (at_builtin; refine wpList_append_opt_if (by first | rfl | (simp [Region.wanted, yielded]; done)) (.tmp 97) (.tmp 98) 24 rfl wC.heap.size 4 i0 (.bool false) 1 1 Try.underlying24 hi hz0 hz1 hz2 rfl (by decide) _ 0 [] rfl (empty_row wC wC.heap.size 1 4 (Nat.le_refl _)) A2 q cx (Lx.map Value.bool) rfl H02.out ?c1 HR2b.out.cells (bools_one _) ?c2 ?c3 ?c4 ?_; rotate_left 4; intro v5 w5 ho5 hg5)
          | (at_builtin; refine wpList_append_opt_if (by first | rfl | (simp [Region.wanted, yielded]; done)) (.tmp 99) (.tmp 100) 24 rfl wC.heap.size 4 i0 (.bool false) 1 1 Try.underlying24 hi hz0 hz1 hz2 rfl (by decide) _ (0 + q) _ rfl ho5 A3 mz cz (Ly.map Value.bool) rfl H03.out ?d1 (H3c.out _ hg5) (bools_one _) ?d2 ?d3 ?d4 ?_; rotate_left 4; intro v6 w6 ho6 hg6; have hb6 := HB6.out _ _ _ hg5 _ _ ho5 hg6; obtain ⟨A6, c6, rfl, hr6⟩ := own_two ho6 HQ.out HLL.out; have HR6 := Lib.hid hr6; clear hr6; have HB7 := Lib.hid hb6; clear hb6))
        case c1 => simp [HLX.out]
        case c2 => unfold maxLen; omega
        case c3 => omega
        case c4 => simp
        case d1 => simp [HLY.out]
        case d2 => have := HQ.out; unfold maxLen; omega
        case d3 => have := HQ.out; omega
        case d4 => have := hg5.size; simp at this; omega
        refine (H12.out _ _ _ ((HX1.out.below HB7.out).more HB7.out.size) HR6.out).mono ?_
        rintro e w7 ⟨rfl, hb7⟩
        go_wp2_with fail
        have hJ := HJ.out
        go_meet
        exact ⟨rfl, HB7.out.trans (hb7.mono HB7.out.size)⟩
      case rest =>
        obtain ⟨rfl, hb8⟩ := hcut
        obtain ⟨wD, rfl⟩ : ∃ wo : World, wo = wc := ⟨_, rfl⟩
        have hA1 := (HX1.out.below hb8).more hb8.size
        have l10D := L10C.out.below hb8 hlt10C
        have l12D := l12.below hb8 hlt12C
        have hBD : Below w.heap.size w wD := (K3.out.trans (BC.out.mono K3.out.size)).trans (hb8.mono (K3.out.trans (BC.out.mono K3.out.size)).size)
        have hNE : ∀ ad', A1 = some ad' → ad'.block ≠ w2.heap.size := fun ad' e => by have := HF1.out ad' e; simp at this; omega
        have HNE := Lib.hid hNE; clear hNE
        clear e0 e1 e2 e3 e4 f0 f1 f2 f3 f4 q1 q2 q3 q4 hb8 l12 l18
        go_wp2_with fail
        go_loopw [21] (fun i wr => ∃ (j : Nat) (u d : Int) (b : Bool), j ≤ k ∧ i = .int .i64 j ∧ Hid (Plain.runS (1 + nn) (1 + mm) (0, 0, false) (cs.take j) = (u, d, b)) ∧
          Lkb wr w2.heap.size (1 + nn) (1 + mm) u d b ∧ Lkb wr w3.heap.size (1 + nn) (1 + mm) u' d' b' ∧ Hid (ReadsB wr wD.heap.size A1 L) ∧ Below w.heap.size w wr ∧ wD.heap.size ≤ wr.heap.size) (fun i _ => k - (intOf i).toNat)
        case atStart => exact ⟨0, 0, 0, false, Nat.zero_le _, rfl, Lib.hid rfl, l10D, l12D, Lib.hid hA1, hBD, Nat.le_refl _⟩
        case round =>
          obtain ⟨j, u, d, b, hj, rfl, hS, l10, l12, hA1, hB, hsz⟩ := hrel
          by_cases hlt : j < k
          · have hjl : j < cs.length := by rw [HL.out]; exact hlt
            obtain ⟨u2, d2, b2, hu2, hd2, hb2, hS2, hv1, hv2, hjL, hLj⟩ := HPS.out j hjl u d b hS.out
            obtain ⟨_, e1, hab, hcell⟩ := (HR.out.below hB) j hjl
            cases e1
            obtain ⟨adx, hAx, hxb, hxc⟩ := hA1.out j hjL
            rw [hLj] at hxc
            have HH := Lib.hid hA1.out
            clear hLj hjL
            generalize cs[j] = cc at hu2 hd2 hb2 hcell
            have H17 := Lib.hid (fun W => step17_ok (1 + nn) (1 + mm) u d b cc W hv1 u2 d2 b2 hu2 hd2 hb2)
            have H14 := Lib.hid (fun W => check14_is (1 + nn) (1 + mm) u2 d2 b2 0 hv2 W)
            have HS2 := Lib.hid hS2
            clear hu2 hd2 hb2 hS2 hv1 hv2 hS
            subst hAx
            obtain ⟨c0, c1', c2, c3, c4⟩ := l10.cells
            have hlt10' := l10.lt
            have HL10 := Lib.hid l10; clear l10
            have HL12 := Lib.hid l12; clear l12
            have HB := Lib.hid hB
            have HXC := Lib.hid hxc; clear hxc
            have hcA : ∀ o, (wr.alloc o).cell? (ad.add j) = some (.bool cc) := fun o => ((below1 wr o).cell (by rw [add_block]; have := hB.size; omega)).trans hcell
            go_upto_region 14 with (fail)
            go_cut [22, 23] from 105 to 136 (fun s22 s23 wx => Stepd wr (1 + nn) (1 + mm) u2 d2 b2 s22 s23 wx)
            case first =>
              rename_i J K' hJ hK
              have HJ := Lib.hid hJ; clear hJ
              go_region_with (go_at_call 17; refine (H17.out _).mono ?_; rintro e w4 ⟨rfl, hb4⟩; (first
                | (with_reducible have hq := shape_b hb4; obtain ⟨q0, q1, q2, q3, q4, qf, qs⟩ := hq)
                | skip))
              all_goals
                go_wp2_with fail
                have hJ := HJ.out
                go_meet
                first
                  | with_reducible exact stepd_a hb4
                  | with_reducible exact stepd_b hb4
            case rest =>
              obtain ⟨g22, rfl, rfl, hg22, l22, hb4⟩ := hcut
              obtain ⟨wE, rfl⟩ : ∃ wo : World, wo = wc := ⟨_, rfl⟩
              have hxE := (hb4.cell (p := adx.add j) (by rw [add_block]; omega)).trans HXC.out
              have hgE := l22.lt
              have hsE := hb4.size
              have HL10E := Lib.hid (HL10.out.below hb4 hlt10')
              have HL12E := Lib.hid (HL12.out.below hb4 HL12.out.lt)
              have HBE := Lib.hid (HB.out.trans (hb4.mono HB.out.size))
              have HHE := Lib.hid (HH.out.below (hb4.mono hsz))
              have HL22 := Lib.hid l22
              obtain ⟨f0, f1, f2, f3, f4⟩ := l22.cells
              clear c0 c1' c2 c3 c4 hb4 l22 hcell hcA
              go_upto_region 15 with (fail)
              go_cut [135] from 105 to 136 (fun s135 wx => s135 = .bool false ∧ Below wE.heap.size wE wx)
              case first =>
                rename_i J K' hJ hK
                have HJ := Lib.hid hJ; clear hJ
                cases b2
                all_goals
                  go_still_tail 13, (by kernel_rfl)
                  change wpList _ _ _ _ _ wE.drew
                  go_wp2_with fail
                  refine (H14.out _).mono ?_
                  rintro e w5 ⟨rfl, hb5⟩
                  go_wp2_with fail
                  have hJ := HJ.out
                  go_meet
                  exact ⟨rfl, (Below.refl wE.heap.size wE).drew.trans hb5⟩
              case rest =>
                obtain ⟨rfl, hb5⟩ := hcut
                obtain ⟨wF, rfl⟩ : ∃ wo : World, wo = wc := ⟨_, rfl⟩
                have l10 := HL10E.out.below hb5 HL10E.out.lt
                have l12 := HL12E.out.below hb5 HL12E.out.lt
                have l22 := HL22.out.below hb5 hgE
                have hA1F := HHE.out.below (hb5.mono (Nat.le_trans hsz hsE))
                have hBF := HBE.out.trans (hb5.mono HBE.out.size)
                have hsF := hb5.size
                obtain ⟨c0, c1', c2, c3, c4⟩ := l10.cells
                have hfr := l10.frozen
                have hl10F := l10.lt
                have hl22F := l22.lt
                clear f0 f1 f2 f3 f4 hxE
                obtain ⟨f0, f1, f2, f3, f4⟩ := l22.cells
                have HL10F := Lib.hid l10; clear l10
                have HL12F := Lib.hid l12; clear l12
                have HL22F := Lib.hid l22; clear l22
                have HA1F := Lib.hid hA1F; clear hA1F
                have HBF := Lib.hid hBF; clear hBF
                have hb5H := Lib.hid hb5; clear hb5
                go_wp2_with fail
                go_roundw
                case rel => exact ⟨j + 1, u2, d2, b2, by omega, by go_num, HS2, HL10F.out.set5 _ _ _ _ _, HL12F.out.far5 (by omega) _ _ _ _ _, Lib.hid (HA1F.out.set5 HNE.out _ _ _ _ _), below_set5 HBF.out hww _ _ _ _ _, by simp; omega⟩
                case measure => simp [intOf]; omega
          · have hjk : cs.take j = cs := List.take_of_length_le (by rw [HL.out]; omega)
            have hS' := hS.out
            rw [hjk, HSA.out] at hS'
            injection hS' with h1 h2
            injection h2 with h2 h3
            subst h1 h2 h3
            clear hjk hS
            obtain ⟨c0, c1', c2, c3, c4⟩ := l10.cells
            obtain ⟨e0, e1, e2, e3, e4⟩ := l12.cells
            have q1 : (u' == u') = true := beq_iff_eq.2 rfl
            have q2 : (d' == d') = true := beq_iff_eq.2 rfl
            have q3 : (1 + nn == 1 + nn) = true := beq_iff_eq.2 rfl
            have q4 : (1 + mm == 1 + mm) = true := beq_iff_eq.2 rfl
            go_wp2_with fail
            go_ret
            exact ⟨rfl, hB⟩
end Go.Proofs.Ytffchacanekhgaa
