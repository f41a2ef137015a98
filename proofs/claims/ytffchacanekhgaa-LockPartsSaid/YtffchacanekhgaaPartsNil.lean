/-
  WALK: LockParts returns true at no claims (a nil list), and at too many.
-/
import Derived.Test.YtffchacanekhgaaKnownWalk
import Derived.Test.YtffchacanekhgaaSteps1
import Derived.Test.YtffchacanekhgaaOpt
import Derived.Deep.CutRange
import Derived.Deep.CutBlock
import Derived.Deep.RegionWith
import Derived.Outline
namespace Go.Proofs.Ytffchacanekhgaa
open Go.RowKit

theorem parts_long (a0 a1 a2 : Int) (A : Option Addr) (k c : Nat) (w : World) (hk : 200 < k) :
    Calls Try.prog 7 #[.int .i64 a0, .int .i64 a1, .int .i64 a2, .slice A k c] w fun e w' => e = .returned (.bool true) ∧ Below w.heap.size w w' := by
  go_enter Try.func7, Try.ntmps7
  go_wp2_with fail
  refine (lockKnown_walk _).mono ?_
  rintro e w1 ⟨rfl, hb1⟩
  go_wp2_with fail
  go_ret
  exact ⟨rfl, hb1⟩

set_option maxRecDepth 20000 in
set_option maxHeartbeats 16000000 in
theorem parts_none (a0 a1 a2 : Int) (w : World) (nn mm : Int) (h0 : a0 % 100 = nn) (h1 : a1 % 100 = mm) :
    Calls Try.prog 7 #[.int .i64 a0, .int .i64 a1, .int .i64 a2, .slice none 0 0] w fun e w' => e = .returned (.bool true) ∧ Below w.heap.size w w' := by
  have P0 := Lib.hid (fun W => pick_is a0 100 nn h0 W (by decide) (by decide))
  have P1 := Lib.hid (fun W => pick_is a1 100 mm h1 W (by decide) (by decide))
  have P2 := Lib.hid (fun W => pick_is a2 1 0 (Int.emod_one a2) W (by decide) (by decide))
  have b0 : 0 ≤ nn ∧ nn < 100 := by omega
  have b1 : 0 ≤ mm ∧ mm < 100 := by omega
  obtain ⟨b01, b02⟩ := b0
  obtain ⟨b11, b12⟩ := b1
  clear h0 h1
  have hnd := Plain.needB_of (1 + nn) (1 + mm) (by omega) (by omega) (by omega) (by omega)
  have hchk : Plain.chk (1 + nn) (1 + mm) 0 0 false = 0 := by rw [Plain.chk_new, Plain.newE, hnd]; rfl
  have H13 := Lib.hid (fun W => new13_is (1 + nn) (1 + mm) (1 + nn) (1 + mm) 0 (by rw [Plain.newN, hnd]; rfl) (by rw [Plain.newM, hnd]; rfl) (by rw [Plain.newE, hnd]; rfl) W)
  have H10 := Lib.hid (fun W => run10_own (1 + nn) (1 + mm) 0 0 false none 0 0 [] 0 0 false [] W rfl (by decide) hchk rfl rfl (fun j hj => absurd hj (by simp)))
  clear hnd hchk
  obtain ⟨i0, hi, hz0, hz1, hz2⟩ := info_parts info4
  have q3 : (1 + nn == 1 + nn) = true := beq_iff_eq.2 rfl
  have q4 : (1 + mm == 1 + mm) = true := beq_iff_eq.2 rfl
  have Q3 := Lib.hid q3; clear q3
  have Q4 := Lib.hid q4; clear q4
  go_enter Try.func7, Try.ntmps7
  go_wp2_with fail
  refine (lockKnown_walk _).mono ?_
  rintro e w1 ⟨rfl, hb1⟩
  go_wp2_with fail
  refine (P0.out _).mono ?_
  rintro e w2 ⟨rfl, rfl⟩
  go_wp2_with fail
  refine (P1.out _).mono ?_
  rintro e w2 ⟨rfl, rfl⟩
  go_wp2_with fail
  refine (H13.out _).mono ?_
  rintro e w2 ⟨rfl, hb2⟩
  have k2 := balloc (bthen hb1 hb2) (.cells #[.int .i64 (1 + nn), .int .i64 (1 + mm), .int .i64 0, .int .i64 0, .bool false] 23)
  have hk2 := k2.size
  have hww := (bthen hb1 hb2).size
  have K2 := Lib.hid k2; clear k2
  go_wp2_with fail
  refine (P2.out _).mono ?_
  rintro e w2 ⟨rfl, rfl⟩
  go_wp2_with fail
  refine (H10.out _).mono ?_
  rintro e w3 ⟨A1, c1, rfl, hr1, hf1, h01, hl1, hb3⟩
  have H01 := Lib.hid h01; clear h01
  clear hl1 hf1
  have k3 := balloc (bthen K2.out hb3) (.cells #[.int .i64 (1 + nn), .int .i64 (1 + mm), .int .i64 0, .int .i64 0, .bool false] 23)
  have l10 : Lkb (w3.alloc (.cells #[.int .i64 (1 + nn), .int .i64 (1 + mm), .int .i64 0, .int .i64 0, .bool false] 23)) w2.heap.size (1 + nn) (1 + mm) 0 0 false := ((show Lkb (w2.alloc _) w2.heap.size _ _ _ _ _ from heap_new_at _ _ _ rfl).below hb3 (by simp)).alloc _
  have l12 : Lkb (w3.alloc (.cells #[.int .i64 (1 + nn), .int .i64 (1 + mm), .int .i64 0, .int .i64 0, .bool false] 23)) w3.heap.size (1 + nn) (1 + mm) 0 0 false := heap_new_at _ _ _ rfl
  have hne : w2.heap.size < w3.heap.size := by have := hb3.size; simp at this; omega
  have K3 := Lib.hid k3; clear k3 hr1
  have H12 := Lib.hid (show ∀ A' c' W, Calls Try.prog 12 #[.slice A1 0 c1, .slice A' 0 c'] W fun e w' => e = .returned (.bool true) ∧ Below W.heap.size W w' from fun A' c' W =>
    same_yes A1 A' c1 c' [] W (fun j hj => absurd hj (by simp)) (fun j hj => absurd hj (by simp)) (by simp))
  go_upto_region 7 with (fail)
  generalize w3.alloc (.cells #[.int .i64 (1 + nn), .int .i64 (1 + mm), .int .i64 0, .int .i64 0, .bool false] 23) = wA at K3 l10 l12 ⊢
  obtain ⟨c0, c1', c2, c3, c4⟩ := l10.cells
  have hlt10 := l10.lt
  have L10 := Lib.hid l10; clear l10
  have L12 := Lib.hid l12; clear l12
  go_cut [15, 16, 17] from 24 to 142 (fun s15 s16 s17 wx => Ran wA (1 + nn) (1 + mm) 0 0 false 0 [] s15 s16 s17 wx)
  case first =>
    rename_i J K' hJ hK
    have HJ := Lib.hid hJ; clear hJ
    go_region_with (go_at_call 10; refine (H10.out _).mono ?_; rintro e w4 ⟨A2, cx, rfl, hr2, hf2, h02, _, hb4⟩; (first
      | (with_reducible have hq := shape_b hb4; obtain ⟨q0, q1, q2, q3, q4, qf, qs⟩ := hq)
      | skip))
    all_goals
      go_wp2_with fail
      have hJ := HJ.out
      go_meet
      first
        | with_reducible exact ran_a hr2 hf2 (fun h => ⟨rfl, (h02 h).2⟩) hb4
        | with_reducible exact ran_b hr2 hf2 (fun h => ⟨rfl, (h02 h).2⟩) hb4
  case rest =>
    obtain ⟨g15, A2, cx, rfl, rfl, rfl, hg15, l15, hr2, hf2, h02, hb4⟩ := hcut
    obtain ⟨wB, rfl⟩ : ∃ wo : World, wo = wc := ⟨_, rfl⟩
    have HR2 := Lib.hid hr2; clear hr2
    have HB4 := Lib.hid hb4; clear hb4
    have H02 := Lib.hid h02; clear h02
    have hlt12 := L12.out.lt
    have L10B := Lib.hid (L10.out.below HB4.out hlt10)
    have L12B := Lib.hid (L12.out.below HB4.out hlt12)
    have hsB := HB4.out.size
    have hgB := l15.lt
    obtain ⟨d0, d1, d2, d3, d4⟩ := l15.cells
    have L15 := Lib.hid l15; clear l15
    clear c0 c1' c2 c3 c4
    go_upto_region 8 with (fail)
    go_cut [18, 19, 20] from 24 to 142 (fun s18 s19 s20 wx => Ran wB (1 + nn) (1 + mm) 0 0 false 0 [] s18 s19 s20 wx)
    case first =>
      rename_i J K' hJ hK
      have HJ := Lib.hid hJ; clear hJ
      go_region_with (go_at_call 10; refine (H10.out _).mono ?_; rintro e w4 ⟨A3, cz, rfl, hr3, hf3, h03, _, hb5⟩; (first
        | (with_reducible have hq := shape_b hb5; obtain ⟨q0, q1, q2, q3, q4, qf, qs⟩ := hq)
        | skip))
      all_goals
        go_wp2_with fail
        have hJ := HJ.out
        go_meet
        first
          | with_reducible exact ran_a hr3 hf3 (fun h => ⟨rfl, (h03 h).2⟩) hb5
          | with_reducible exact ran_b hr3 hf3 (fun h => ⟨rfl, (h03 h).2⟩) hb5
    case rest =>
      obtain ⟨g18, A3, cz, rfl, rfl, rfl, hg18, l18, hr3, hf3, h03, hb5⟩ := hcut
      obtain ⟨wC, rfl⟩ : ∃ wo : World, wo = wc := ⟨_, rfl⟩
      have H03 := Lib.hid h03; clear h03
      have L10C := Lib.hid (L10B.out.below hb5 (by omega))
      have l12 := L12B.out.below hb5 (by omega)
      have BC := Lib.hid (HB4.out.trans (hb5.mono hsB))
      clear hr3
      have HB5 := Lib.hid hb5; clear hb5
      have hlt18 := l18.lt
      have hlt12C := l12.lt
      have hlt10C := L10C.out.lt
      obtain ⟨e0, e1, e2, e3, e4⟩ := l12.cells
      obtain ⟨f0, f1, f2, f3, f4⟩ := l18.cells
      clear d0 d1 d2 d3 d4
      have q3 := Q3.out
      have q4 := Q4.out
      have HB6 := Lib.hid (fun (w5 w6 : World) (v5 : Value) (hg : (wC.alloc (.cells #[] 4)).grownBy w5 (Value.slice (some ⟨wC.heap.size, 0, none⟩) 0 0).ownBlock) (n : Nat) (xs : List Value) (ho : w5.ownsRow wC.heap.size 4 1 v5 n xs) (hg6 : w5.grownBy w6 v5.ownBlock) => (((Below.refl wC.heap.size wC).alloc (Nat.le_refl _) (.cells #[] 4)).grown hg (by simp) (fun j hj => by cases hj; exact Nat.le_refl _)).grown hg6 (Nat.le_trans (by simp) hg.size) (own_block ho))
      have HN := Lib.hid (show ∀ (w5 : World) (A : Option Addr) ad, A = some ad → ∀ (j : Nat) (u : Value), (([] : List Bool).map Value.bool)[j]? = some u → w5.cell? (ad.add j) = some u from fun w5 A ad _ j u hu => by simp at hu)
      have HM := Lib.hid (show 0 + 0 ≤ maxLen by unfold maxLen; omega)
      have HM2 := Lib.hid (show 0 + 0 + 0 ≤ maxLen by unfold maxLen; omega)
      go_upto_region 9 with (fail)
      go_cut [104] from 24 to 142 (fun s104 wx => s104 = .bool false ∧ Below wC.heap.size wC wx)
      case first =>
        rename_i J K' hJ hK
        have HJ := Lib.hid hJ; clear hJ
        go_wp2_with (first
          | (at_builtin; refine wpList_append_opt_if (by first | rfl | (simp [Region.wanted, yielded]; done)) (.tmp 97) (.tmp 98) 24 rfl wC.heap.size 4 i0 (.bool false) 1 1 Try.underlying24 hi hz0 hz1 hz2 rfl (by decide) _ 0 [] rfl (empty_row wC wC.heap.size 1 4 (Nat.le_refl _)) A2 0 cx (([] : List Bool).map Value.bool) rfl (fun h => ⟨rfl, (H02.out h).2⟩) rfl (HN.out _ _) (bools_one _) HM.out (by decide) ?c4 ?_; rotate_left 1; intro v5 w5 ho5 hg5)
          | (at_builtin; refine wpList_append_opt_if (by first | rfl | (simp [Region.wanted, yielded]; done)) (.tmp 99) (.tmp 100) 24 rfl wC.heap.size 4 i0 (.bool false) 1 1 Try.underlying24 hi hz0 hz1 hz2 rfl (by decide) _ (0 + 0) _ rfl ho5 A3 0 cz (([] : List Bool).map Value.bool) rfl (fun h => ⟨rfl, (H03.out h).2⟩) rfl (HN.out _ _) (bools_one _) HM2.out (by decide) ?d4 ?_; rotate_left 1; intro v6 w6 ho6 hg6; have hb6 := HB6.out _ _ _ hg5 _ _ ho5 hg6; obtain ⟨A6, c6, rfl, hr6⟩ := own_two (a := 0) (b := 0) (X := []) (Y := []) (k := 0) (L := []) ho6 rfl rfl; have HB7 := Lib.hid hb6; clear hb6))
        case d4 => have := hg5.size; simp at this; omega
        refine (H12.out _ _ _).mono ?_
        rintro e w7 ⟨rfl, hb7⟩
        go_wp2_with fail
        have hJ := HJ.out
        go_meet
        exact ⟨rfl, HB7.out.trans (hb7.mono HB7.out.size)⟩
      case rest =>
        obtain ⟨rfl, hb8⟩ := hcut
        obtain ⟨wD, rfl⟩ : ∃ wo : World, wo = wc := ⟨_, rfl⟩
        have l10D := L10C.out.below hb8 hlt10C
        have l12D := l12.below hb8 hlt12C
        have hBD : Below w.heap.size w wD := (K3.out.trans (BC.out.mono K3.out.size)).trans (hb8.mono (K3.out.trans (BC.out.mono K3.out.size)).size)
        clear e0 e1 e2 e3 e4 f0 f1 f2 f3 f4 hb8 l12 l18
        go_wp2_with fail
        go_loopw [21] (fun i wr => i = .int .i64 0 ∧ Lkb wr w2.heap.size (1 + nn) (1 + mm) 0 0 false ∧ Lkb wr w3.heap.size (1 + nn) (1 + mm) 0 0 false ∧ Below w.heap.size w wr) (fun _ _ => 0)
        case atStart => exact ⟨rfl, l10D, l12D, hBD⟩
        case round =>
          obtain ⟨rfl, l10, l12, hB⟩ := hrel
          obtain ⟨c0, c1', c2, c3, c4⟩ := l10.cells
          obtain ⟨e0, e1, e2, e3, e4⟩ := l12.cells
          go_wp2_with fail
          go_ret
          exact ⟨rfl, hB⟩
end Go.Proofs.Ytffchacanekhgaa
