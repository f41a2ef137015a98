/-
  WALK: LockProves returns true.
-/
import Derived.Test.YtffchacanekhgaaKnownWalk
import Derived.Test.YtffchacanekhgaaPlainF
import Derived.Deep.CutRange
import Derived.Deep.CutBlock
namespace Go.Proofs.Ytffchacanekhgaa
open Go.RowKit

theorem ReadsB.get {w : World} {B : Nat} {A : Option Addr} {cs : List Bool} (h : ReadsB w B A cs) (j : Nat) (hj : j < cs.length) : ∃ ad, A = some ad ∧ ad.block < B ∧ w.cell? (ad.add j) = some (.bool (cs[j]?.getD false)) := by
  obtain ⟨ad, e, h1, h2⟩ := h j hj
  exact ⟨ad, e, h1, by rw [h2, List.getElem?_eq_getElem hj]; rfl⟩

theorem proves_long (a0 a1 : Int) (A : Option Addr) (k c : Nat) (w : World) (hk : 200 < k) :
    Calls Try.prog 5 #[.int .i64 a0, .int .i64 a1, .slice A k c] w fun e w' => e = .returned (.bool true) ∧ Below w.heap.size w w' := by
  go_enter Try.func5, Try.ntmps5
  go_wp2_with fail
  refine (lockKnown_walk _).mono ?_
  rintro e w1 ⟨rfl, hb1⟩
  go_wp2_with fail
  go_ret
  exact ⟨rfl, hb1⟩

set_option maxRecDepth 20000 in
set_option maxHeartbeats 4000000 in
theorem proves_short (a0 a1 : Int) (A : Option Addr) (k c : Nat) (cs : List Bool) (w : World) (hk : k ≤ 200) (hl : cs.length = k) (hr : ReadsB w w.heap.size A cs)
    (nn mm : Int) (h0 : a0 % 8 = nn) (h1 : a1 % 8 = mm) :
    Calls Try.prog 5 #[.int .i64 a0, .int .i64 a1, .slice A k c] w fun e w' => e = .returned (.bool true) ∧ Below w.heap.size w w' := by
  have P0 := Lib.hid (fun W => pick_is a0 8 nn h0 W (by decide) (by decide))
  have P1 := Lib.hid (fun W => pick_is a1 8 mm h1 W (by decide) (by decide))
  have b0 : 0 ≤ nn ∧ nn < 8 := by omega
  have b1 : 0 ≤ mm ∧ mm < 8 := by omega
  obtain ⟨b01, b02⟩ := b0
  obtain ⟨b11, b12⟩ := b1
  clear h0 h1
  have hnd := Plain.needB_of (1 + nn) (1 + mm) (by omega) (by omega) (by omega) (by omega)
  have hchk : Plain.chk (1 + nn) (1 + mm) 0 0 false = 0 := by rw [Plain.chk_new, Plain.newE, hnd]; rfl
  have H13 := Lib.hid (fun W => new13_is (1 + nn) (1 + mm) (1 + nn) (1 + mm) 0 (by rw [Plain.newN, hnd]; rfl) (by rw [Plain.newM, hnd]; rfl) (by rw [Plain.newE, hnd]; rfl) W)
  obtain ⟨⟨u', d', b'⟩, hS⟩ : ∃ S : Plain.St, Plain.runS (1 + nn) (1 + mm) (0, 0, false) cs = S := ⟨_, rfl⟩
  obtain ⟨L, hL⟩ : ∃ L, Plain.runL (1 + nn) (1 + mm) (0, 0, false) cs = L := ⟨_, rfl⟩
  have H10 := Lib.hid (fun W h => run10_is (1 + nn) (1 + mm) 0 0 false A k c cs u' d' b' L W hl (by omega) hchk hS hL h)
  have HLW := Lib.hid (show ∀ j, j < k → L[j]?.getD false = Plain.wantN (1 + nn) (1 + mm) cs (j + 1) from fun j hj => by
    have hl2 : j < L.length := by rw [← hL, Plain.runL_length]; omega
    rw [List.getElem?_eq_getElem hl2]
    subst hL
    exact Plain.runL_want _ _ cs (by omega) (by omega) j (by omega) hl2)
  clear hS hL hchk hnd
  have HR := Lib.hid hr; clear hr
  have HL := Lib.hid hl; clear hl
  go_enter Try.func5, Try.ntmps5
  go_wp2_with fail
  refine (lockKnown_walk _).mono ?_
  rintro e w1 ⟨rfl, hb1⟩
  go_wp2_with fail
  refine (P0.out _).mono ?_
  rintro e w2 ⟨rfl, rfl⟩
  go_wp2_with fail
  refine (P1.out _).mono ?_
  rintro e w2 ⟨rfl, rfl⟩
  go_wp2_with fail
  refine (H13.out _).mono ?_
  rintro e w2 ⟨rfl, hb2⟩
  have k2 := balloc (bthen hb1 hb2) (.cells #[.int .i64 (1 + nn), .int .i64 (1 + mm), .int .i64 0, .int .i64 0, .bool false] 23)
  have hk2 := k2.size
  have K2 := Lib.hid k2; clear k2
  go_wp2_with fail
  refine (H10.out _ ?ha).mono ?_
  case ha => exact (HR.out.below K2.out).more hk2
  rintro e w3 ⟨A1, c1, rfl, hr1, hl1, hb3⟩
  have k3 := balloc (bthen K2.out hb3) (.cells #[.int .i64 (1 + nn), .int .i64 (1 + mm), .int .i64 u', .int .i64 d', .bool b'] 23)
  have HX := Lib.hid ((hr1.below (below1 w3 (.cells #[.int .i64 (1 + nn), .int .i64 (1 + mm), .int .i64 u', .int .i64 d', .bool b'] 23))).more (B' := (w3.alloc (.cells #[.int .i64 (1 + nn), .int .i64 (1 + mm), .int .i64 u', .int .i64 d', .bool b'] 23)).heap.size) (by simp))
  have HA := Lib.hid ((HR.out.below k3).more k3.size)
  have K3 := Lib.hid k3; clear k3 hr1
  have HL1 := Lib.hid hl1; clear hl1
  go_upto_region 7 with (fail)
  generalize w3.alloc (.cells #[.int .i64 (1 + nn), .int .i64 (1 + mm), .int .i64 u', .int .i64 d', .bool b'] 23) = wS at HX HA K3 ⊢
  go_wp2_with fail
  go_loopw [13] (fun i wr => ∃ j : Nat, j ≤ k ∧ i = .int .i64 j ∧ Below wS.heap.size wS wr) (fun i _ => k - (intOf i).toNat)
  case atStart => exact ⟨0, Nat.zero_le _, rfl, Below.refl _ _⟩
  case round =>
    obtain ⟨j, hj, rfl, hB⟩ := hrel
    by_cases hlt : j < k
    · have hjl : j < cs.length := by rw [HL.out]; exact hlt
      have hjL : j < L.length := by rw [HL1.out]; exact hlt
      obtain ⟨ad, hA, hab, _⟩ := (HA.out.below hB).get j hjl
      subst hA
      obtain ⟨ad1, hA1, hab1, hcx⟩ := (HX.out.below hB).get j hjL
      subst hA1
      rw [HLW.out j hlt] at hcx
      have HCX := Lib.hid hcx; clear hcx
      have HB := Lib.hid hB; clear hB
      obtain ⟨wo, rfl⟩ : ∃ wo : World, wo = wr := ⟨_, rfl⟩
      go_upto_block 2 with (fail)
      go_cut [14] from 65 to 101 (fun s14 wx => s14 = .bool (Plain.wantN (1 + nn) (1 + mm) cs (j + 1)) ∧ Below wS.heap.size wS wx)
      case first =>
        rename_i J K' hJ hK
        have HJ := Lib.hid hJ; clear hJ
        go_wp2_with fail
        go_loopw [14, 15] (fun s14 s15 wr => ∃ (kk : Nat) (z : Int), kk ≤ j + 1 ∧ s15 = .int .i64 z ∧ z = kk - 1 ∧ s14 = .bool false ∧ Plain.wantN (1 + nn) (1 + mm) cs (j + 1) = Plain.wantN (1 + nn) (1 + mm) cs kk ∧ Below wS.heap.size wS wr) (fun _ i _ => (intOf i + 1).toNat)
        case atStart => exact ⟨j + 1, j, Nat.le_refl _, rfl, by omega, rfl, rfl, HB.out⟩
        case round =>
          obtain ⟨kk, z, hkk, rfl, hz, rfl, hW, hB2⟩ := hrel
          have HW := Lib.hid hW; clear hW
          have HB2 := Lib.hid hB2; clear hB2
          cases kk with
          | zero =>
            obtain rfl : z = -1 := by omega
            clear hz
            go_wp2_with fail
            have hJ := HJ.out
            go_meet
            exact ⟨congrArg Value.bool HW.out.symm, HB2.out⟩
          | succ k' =>
            obtain rfl : z = (k' : Int) := by omega
            clear hz
            obtain ⟨wo2, rfl⟩ : ∃ wo : World, wo = wr := ⟨_, rfl⟩
            obtain ⟨up, hup⟩ : ∃ up, Plain.upN cs (k' + 1) = up := ⟨_, rfl⟩
            obtain ⟨dn, hdn⟩ : ∃ dn, Plain.dnN cs (k' + 1) = dn := ⟨_, rfl⟩
            have hupl : up ≤ k' + 1 := by rw [← hup]; exact Plain.upN_le cs _
            have hdnl : dn ≤ k' + 1 := by rw [← hdn]; exact Plain.dnN_le cs _
            have UA := Lib.hid (show ∀ p t, p + t = k' → t ≤ up → cs[p]?.getD false = decide (t < up) from fun p t e h => by
              have := Plain.up_at cs (k' + 1) t (by omega) (by omega)
              rw [show k' + 1 - 1 - t = p by omega, hup] at this; exact this)
            have DA := Lib.hid (show ∀ p t, p + t = k' → t ≤ dn → cs[p]?.getD false = !decide (t < dn) from fun p t e h => by
              have := Plain.dn_at cs (k' + 1) t (by omega) (by omega)
              rw [show k' + 1 - 1 - t = p by omega, hdn] at this; exact this)
            have WA := Lib.hid (show Plain.wantN (1 + nn) (1 + mm) cs (k' + 1) = if 1 + nn ≤ (up : Int) then true else if 1 + mm ≤ (dn : Int) then false else Plain.wantN (1 + nn) (1 + mm) cs k' by rw [Plain.wantN, hup, hdn])
            clear hup hdn
            go_upto_block 4 with (fail)
            go_cut [16] from 70 to 81 (fun s16 wx => s16 = .int .i64 (up : Int) ∧ Below wS.heap.size wS wx)
            case first =>
              rename_i J2 K2' hJ2 hK2
              have HJ2 := Lib.hid hJ2; clear hJ2
              go_wp2_with fail
              go_loopw [16, 18] (fun s16 s18 wr => ∃ (t : Nat) (z : Int), t ≤ up ∧ s16 = .int .i64 (t : Int) ∧ s18 = .int .i64 z ∧ z = k' - t ∧ Below wS.heap.size wS wr) (fun _ i _ => (intOf i + 1).toNat)
              case atStart => exact ⟨0, k', Nat.zero_le _, rfl, rfl, by omega, HB2.out⟩
              case round =>
                obtain ⟨t, z, ht, rfl, rfl, hz, hB3⟩ := hrel
                by_cases htk : t ≤ k'
                · obtain ⟨p, hp⟩ : ∃ p, p + t = k' := ⟨k' - t, by omega⟩
                  obtain rfl : z = (p : Int) := by omega
                  obtain ⟨_, e1, _, hc⟩ := (HA.out.below hB3).get p (by omega)
                  cases e1
                  rw [UA.out p t hp ht] at hc
                  have hpk : p < k := by omega
                  have HP := Lib.hid hp; clear hp
                  have HZ := Lib.hid hz; clear hz
                  by_cases hlt3 : t < up
                  · rw [decide_eq_true hlt3] at hc
                    have HB3 := Lib.hid hB3; clear hB3
                    go_wp2_with fail
                    go_roundw
                    case rel => exact ⟨t + 1, _, by omega, by go_num, rfl, by have := HZ.out; omega, HB3.out⟩
                    case measure => simp [intOf]
                  · rw [decide_eq_false hlt3] at hc
                    have HB3 := Lib.hid hB3; clear hB3
                    go_wp2_with fail
                    have hJ2 := HJ2.out
                    go_meet
                    exact ⟨by rw [show t = up by omega], HB3.out⟩
                · obtain rfl : z = -1 := by omega
                  clear hz
                  have HB3 := Lib.hid hB3; clear hB3
                  go_wp2_with fail
                  have hJ2 := HJ2.out
                  go_meet
                  exact ⟨by rw [show t = up by omega], HB3.out⟩
            case rest =>
              obtain ⟨rfl, hB4⟩ := hcut
              have HB4 := Lib.hid hB4; clear hB4
              obtain ⟨wo3, rfl⟩ : ∃ wo : World, wo = wc := ⟨_, rfl⟩
              go_upto_block 6 with (fail)
              go_cut [17] from 83 to 95 (fun s17 wx => s17 = .int .i64 (dn : Int) ∧ Below wS.heap.size wS wx)
              case first =>
                rename_i J2 K2' hJ2 hK2
                have HJ2 := Lib.hid hJ2; clear hJ2
                go_wp2_with fail
                go_loopw [17, 19] (fun s17 s19 wr => ∃ (t : Nat) (z : Int), t ≤ dn ∧ s17 = .int .i64 (t : Int) ∧ s19 = .int .i64 z ∧ z = k' - t ∧ Below wS.heap.size wS wr) (fun _ i _ => (intOf i + 1).toNat)
                case atStart => exact ⟨0, k', Nat.zero_le _, rfl, rfl, by omega, HB4.out⟩
                case round =>
                  obtain ⟨t, z, ht, rfl, rfl, hz, hB3⟩ := hrel
                  by_cases htk : t ≤ k'
                  · obtain ⟨p, hp⟩ : ∃ p, p + t = k' := ⟨k' - t, by omega⟩
                    obtain rfl : z = (p : Int) := by omega
                    obtain ⟨_, e1, _, hc⟩ := (HA.out.below hB3).get p (by omega)
                    cases e1
                    rw [DA.out p t hp ht] at hc
                    have hpk : p < k := by omega
                    have HP := Lib.hid hp; clear hp
                    have HZ := Lib.hid hz; clear hz
                    by_cases hlt3 : t < dn
                    · rw [decide_eq_true hlt3] at hc
                      have HB3 := Lib.hid hB3; clear hB3
                      go_wp2_with fail
                      go_roundw
                      case rel => exact ⟨t + 1, _, by omega, by go_num, rfl, by have := HZ.out; omega, HB3.out⟩
                      case measure => simp [intOf]
                    · rw [decide_eq_false hlt3] at hc
                      have HB3 := Lib.hid hB3; clear hB3
                      go_wp2_with fail
                      have hJ2 := HJ2.out
                      go_meet
                      exact ⟨by rw [show t = dn by omega], HB3.out⟩
                  · obtain rfl : z = -1 := by omega
                    clear hz
                    have HB3 := Lib.hid hB3; clear hB3
                    go_wp2_with fail
                    have hJ2 := HJ2.out
                    go_meet
                    exact ⟨by rw [show t = dn by omega], HB3.out⟩
              case rest =>
                obtain ⟨rfl, hB5⟩ := hcut
                have HB5 := Lib.hid hB5; clear hB5
                by_cases hu : 1 + nn ≤ (up : Int)
                · go_wp2_with fail
                  have hJ := HJ.out
                  go_meet
                  exact ⟨congrArg Value.bool (by rw [HW.out, WA.out, if_pos (by omega)]), HB5.out⟩
                · by_cases hd : 1 + mm ≤ (dn : Int)
                  · go_wp2_with fail
                    have hJ := HJ.out
                    go_meet
                    exact ⟨congrArg Value.bool (by rw [HW.out, WA.out, if_neg (by omega), if_pos (by omega)]), HB5.out⟩
                  · go_wp2_with fail
                    go_roundw
                    case rel => exact ⟨k', _, by omega, rfl, rfl, rfl, by rw [HW.out, WA.out, if_neg (by omega), if_neg (by omega)], HB5.out⟩
                    case measure => simp [intOf]
      case rest =>
        obtain ⟨rfl, hB6⟩ := hcut
        clear HCX
        obtain ⟨wo4, rfl⟩ : ∃ wo : World, wo = wc := ⟨_, rfl⟩
        obtain ⟨_, e1, _, hcx⟩ := (HX.out.below hB6).get j hjL
        cases e1
        rw [HLW.out j hlt] at hcx
        have HB6 := Lib.hid hB6; clear hB6
        have hwd := Plain.want_dn (1 + nn) (1 + mm) cs (by omega) (by omega) (j + 1)
        obtain ⟨dn, hdn⟩ : ∃ dn, Plain.dnN cs (j + 1) = dn := ⟨_, rfl⟩
        have DA := Lib.hid (show ∀ p t, p + t = j → t ≤ dn → cs[p]?.getD false = !decide (t < dn) from fun p t e h => by
          have := Plain.dn_at cs (j + 1) t (by omega) (by omega)
          rw [show j + 1 - 1 - t = p by omega, hdn] at this; exact this)
        rw [hdn] at hwd
        clear hdn
        obtain ⟨W, hW⟩ : ∃ W, Plain.wantN (1 + nn) (1 + mm) cs (j + 1) = W := ⟨_, rfl⟩
        have HLJ := Lib.hid ((HLW.out j hlt).trans hW)
        rw [hW] at hwd hcx ⊢
        clear hW
        cases W
        · clear hwd
          go_wp2_with fail
          go_loopw [20] (fun s20 wr => s20 = .int .i64 0 ∧ Below wS.heap.size wS wr) (fun _ _ => 0)
          case atStart => exact ⟨rfl, HB6.out⟩
          case round =>
            obtain ⟨rfl, hB7⟩ := hrel
            clear hcx
            obtain ⟨_, e1, _, hcx⟩ := (HX.out.below hB7).get j hjL
            cases e1
            rw [HLJ.out] at hcx
            have HB7 := Lib.hid hB7; clear hB7
            go_wp2_with fail
            go_roundw
            case rel => exact ⟨j + 1, by omega, by go_num, HB7.out⟩
            case measure => simp [intOf]; omega
        · obtain ⟨hd1, hd2⟩ := hwd rfl
          clear hwd
          go_wp2_with fail
          go_loopw [20] (fun s20 wr => ∃ t : Nat, t ≤ dn ∧ s20 = .int .i64 (t : Int) ∧ Below wS.heap.size wS wr) (fun i _ => dn - (intOf i).toNat)
          case atStart => exact ⟨0, Nat.zero_le _, rfl, HB6.out⟩
          case round =>
            obtain ⟨t, ht, rfl, hB7⟩ := hrel
            clear hcx
            obtain ⟨_, e1, _, hcx⟩ := (HX.out.below hB7).get j hjL
            cases e1
            rw [HLJ.out] at hcx
            obtain ⟨p, hp⟩ : ∃ p, p + t = j := ⟨j - t, by omega⟩
            obtain ⟨_, e1, _, hc⟩ := (HA.out.below hB7).get p (by omega)
            cases e1
            rw [DA.out p t hp ht] at hc
            have hpj : p = j - t := by omega
            rw [hpj] at hc
            have HP := Lib.hid hp; clear hp
            clear hpj
            have hq : ((t : Int) == 1 + mm) = false := beq_eq_false_iff_ne.2 (by omega)
            have HB7 := Lib.hid hB7; clear hB7
            by_cases hlt3 : t < dn
            · rw [decide_eq_true hlt3] at hc
              go_wp2_with fail
              go_roundw
              case rel => exact ⟨t + 1, by omega, by go_num, HB7.out⟩
              case measure => simp [intOf]; omega
            · rw [decide_eq_false hlt3] at hc
              go_wp2_with fail
              go_roundw
              case rel => exact ⟨j + 1, by omega, by go_num, HB7.out⟩
              case measure => simp [intOf]; omega
    · go_wp2_with fail
      go_ret
      exact ⟨rfl, K3.out.trans (hB.mono K3.out.size)⟩
theorem lockProves_walk (a0 a1 : Int) (A : Option Addr) (k c : Nat) (cs : List Bool) (w : World) (hl : cs.length = k) (hr : ReadsB w w.heap.size A cs) :
    Calls Try.prog 5 #[.int .i64 a0, .int .i64 a1, .slice A k c] w fun e w' => e = .returned (.bool true) ∧ Below w.heap.size w w' := by
  by_cases hk : k ≤ 200
  · exact proves_short a0 a1 A k c cs w hk hl hr _ _ rfl rfl
  · exact proves_long a0 a1 A k c w (by omega)
end Go.Proofs.Ytffchacanekhgaa
