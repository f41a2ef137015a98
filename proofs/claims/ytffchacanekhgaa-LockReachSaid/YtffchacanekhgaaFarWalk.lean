/-
  WALK: LockReach returns true.
-/
import Derived.Test.YtffchacanekhgaaOpenI
import Derived.Test.YtffchacanekhgaaSteps1
import Derived.Test.YtffchacanekhgaaPlainE
import Derived.Deep.RegionWith
import Derived.Deep.CutRange
namespace Go.Proofs.Ytffchacanekhgaa
open Go.RowKit

theorem far_long (a0 a1 a2 a3 : Int) (A : Option Addr) (k c : Nat) (w : World) (hk : 200 < k) :
    Calls Try.prog 8 #[.int .i64 a0, .int .i64 a1, .int .i64 a2, .int .i64 a3, .slice A k c] w fun e w' => e = .returned (.bool true) ∧ Below w.heap.size w w' := by
  go_enter Try.func8, Try.ntmps8
  go_wp2_with fail
  refine (lockKnown_walk _).mono ?_
  rintro e w1 ⟨rfl, hb1⟩
  go_wp2_with fail
  go_ret
  exact ⟨rfl, hb1⟩

set_option maxRecDepth 20000 in
set_option maxHeartbeats 1000000 in
theorem far_short (a0 a1 a2 a3 : Int) (A : Option Addr) (k c : Nat) (ls : List Int) (w : World) (hk : k ≤ 200) (hl : ls.length = k) (hr : ReadsI w w.heap.size A ls)
    (nn mm ov rt : Int) (h0 : a0 % 20 = nn) (h1 : a1 % 20 = mm) (h2 : a2 % 8 = ov) (h3 : a3 % 129 = rt) :
    Calls Try.prog 8 #[.int .i64 a0, .int .i64 a1, .int .i64 a2, .int .i64 a3, .slice A k c] w fun e w' => e = .returned (.bool true) ∧ Below w.heap.size w w' := by
  have P0 := Lib.hid (fun W => pick_is a0 20 nn h0 W (by decide) (by decide))
  have P1 := Lib.hid (fun W => pick_is a1 20 mm h1 W (by decide) (by decide))
  have P2 := Lib.hid (fun W => pick_is a2 8 ov h2 W (by decide) (by decide))
  have P3 := Lib.hid (fun W => pick_is a3 129 rt h3 W (by decide) (by decide))
  have b0 : 0 ≤ nn ∧ nn < 20 := by omega
  have b1 : 0 ≤ mm ∧ mm < 20 := by omega
  have b2 : 0 ≤ ov ∧ ov < 8 := by omega
  have b3 : 0 ≤ rt ∧ rt < 129 := by omega
  obtain ⟨b01, b02⟩ := b0
  obtain ⟨b11, b12⟩ := b1
  obtain ⟨b21, b22⟩ := b2
  obtain ⟨b31, b32⟩ := b3
  clear h0 h1 h2 h3
  have hnd := Plain.needB_of (1 + nn) (1 + mm) (by omega) (by omega) (by omega) (by omega)
  have hchk : Plain.chk (1 + nn) (1 + mm) 0 0 false = 0 := by rw [Plain.chk_new, Plain.newE, hnd]; rfl
  have H13 := Lib.hid (fun W => new13_is (1 + nn) (1 + mm) (1 + nn) (1 + mm) 0 (by rw [Plain.newN, hnd]; rfl) (by rw [Plain.newM, hnd]; rfl) (by rw [Plain.newE, hnd]; rfl) W)
  obtain ⟨R, hR⟩ : ∃ R, Plain.rch (1 + mm) (1 + ov) = R := ⟨_, rfl⟩
  have hR2 : 0 ≤ R ∧ R ≤ 1000 := by rw [← hR]; unfold Plain.rch; omega
  obtain ⟨hR2, hR3⟩ := hR2
  have H15 := Lib.hid (fun W => reach15_is (1 + nn) (1 + mm) 0 0 false (1 + ov) R 0 (by rw [Plain.reachV, if_pos ⟨hchk, by omega, by omega⟩, hR]) (by rw [Plain.reachE, if_pos hchk, if_pos ⟨by omega, by omega⟩]) W)
  have I0 := Lib.hid (Plain.inv_start (1 + nn) (1 + mm) (1 + ov) hnd)
  have HRr := Lib.hid hR; clear hR
  clear hnd hchk
  have HR := Lib.hid hr; clear hr
  have HL := Lib.hid hl; clear hl
  go_enter Try.func8, Try.ntmps8
  go_wp2_with fail
  refine (lockKnown_walk _).mono ?_
  rintro e w1 ⟨rfl, hb1⟩
  go_wp2_with fail
  refine (P2.out _).mono ?_
  rintro e w2 ⟨rfl, rfl⟩
  go_wp2_with fail
  refine (P3.out _).mono ?_
  rintro e w2 ⟨rfl, rfl⟩
  go_wp2_with fail
  refine (P0.out _).mono ?_
  rintro e w2 ⟨rfl, rfl⟩
  go_wp2_with fail
  refine (P1.out _).mono ?_
  rintro e w2 ⟨rfl, rfl⟩
  go_wp2_with fail
  refine (H13.out _).mono ?_
  rintro e w2 ⟨rfl, hb2⟩
  go_wp2_with fail
  refine (H15.out _).mono ?_
  rintro e w3 ⟨rfl, hb3⟩
  have hL0 : Lkb w3 w2.heap.size (1 + nn) (1 + mm) 0 0 false := (show Lkb (w2.alloc _) w2.heap.size _ _ _ _ _ from heap_new_at _ _ _ rfl).below hb3 (by simp)
  have kB := bthen (balloc (bthen hb1 hb2) _) hb3
  have hww : w.heap.size ≤ w2.heap.size := (bthen hb1 hb2).size
  go_wp2_with fail
  go_loopw [16, 17] (fun o i wr => ∃ (j : Nat) (off u d : Int) (b : Bool), j ≤ k ∧ i = .int .i64 j ∧ o = .int .i64 off ∧ Plain.Inv (1 + nn) (1 + mm) (1 + ov) (↑j * (rt - 64)) u d b off ∧ -(2 * (j : Int)) ≤ off ∧ off ≤ 2 * (j : Int) ∧
      Lkb wr w2.heap.size (1 + nn) (1 + mm) u d b ∧ Below w.heap.size w wr) (fun _ i _ => k - (intOf i).toNat)
  case atStart => exact ⟨0, 0, 0, 0, false, Nat.zero_le _, rfl, rfl, by simpa using I0.out, by decide, by decide, hL0, kB⟩
  case round =>
    obtain ⟨j, off, u, d, b, hj, rfl, rfl, hInv, ho1, ho2, hL, hB⟩ := hrel
    by_cases hlt : j < k
    · have hjl : j < ls.length := by rw [HL.out]; exact hlt
      obtain ⟨ad, hA, hab, hcell⟩ := (HR.out.below hB) j hjl
      subst hA
      generalize ls[j] = x at hcell
      obtain ⟨mv, hmv⟩ : ∃ z, x % 3 = z := ⟨_, rfl⟩
      have PM := Lib.hid (fun W => pick_is x 3 mv hmv W (by decide) (by decide))
      have hmb : 0 ≤ mv ∧ mv < 3 := by omega
      obtain ⟨hm1, hm2⟩ := hmb
      clear hmv
      obtain ⟨p1, p2⟩ := Plain.mul_bd (j : Int) (rt - 64) (by omega) (by omega) (by omega) (by omega)
      obtain ⟨q1, q2⟩ := Plain.mul_bd ((j : Int) + 1) (rt - 64) (by omega) (by omega) (by omega) (by omega)
      have hKK : ((j : Int) + 1) * (rt - 64) = (j : Int) * (rt - 64) + (rt - 64) := by rw [Int.add_mul, Int.one_mul]
      obtain ⟨cl, hcl⟩ : ∃ z, z = (decide (off < 1 + ov) && decide (-off < 1 + ov)) := ⟨_, rfl⟩
      have hstep := Plain.inv_step (1 + nn) (1 + mm) (1 + ov) _ _ (rt - 64) u d b off (mv - 1) cl hcl hKK (by omega) (by omega) (by omega) (by omega) hInv
      have HI := Lib.hid hInv.1
      have H17 := Lib.hid (fun W => step17_ok (1 + nn) (1 + mm) u d b cl W HI.out _ _ _ rfl rfl rfl)
      obtain ⟨u', hu'⟩ : ∃ z, Plain.stU (1 + nn) u cl = z := ⟨_, rfl⟩
      obtain ⟨d', hd'⟩ : ∃ z, Plain.stD (1 + mm) d cl = z := ⟨_, rfl⟩
      obtain ⟨b', hb'⟩ : ∃ z, Plain.stB (1 + nn) (1 + mm) u d b cl = z := ⟨_, rfl⟩
      rw [hu', hd', hb'] at hstep H17
      rw [HRr.out] at hstep
      clear hu' hd' hb' hInv
      obtain ⟨hInv', hReach⟩ := hstep
      have HI' := Lib.hid hInv'; clear hInv'
      have HK := Lib.hid hKK; clear hKK
      obtain ⟨c0, c1, c2, c3, c4⟩ := hL.cells
      have hfr := hL.frozen
      have hglt := hL.lt
      have ht : (off < 1 + ov ∧ -off < 1 + ov ∧ cl = true) ∨ (off < 1 + ov ∧ ¬ (-off < 1 + ov) ∧ cl = false) ∨ (¬ (off < 1 + ov) ∧ cl = false) := by
        by_cases t1 : off < 1 + ov
        · by_cases t2 : -off < 1 + ov
          · exact Or.inl ⟨t1, t2, by rw [hcl]; simp [t1, t2]⟩
          · exact Or.inr (Or.inl ⟨t1, t2, by rw [hcl]; simp [t2]⟩)
        · exact Or.inr (Or.inr ⟨t1, by rw [hcl]; simp [t1]⟩)
      clear hcl
      have HL_ := Lib.hid hL
      have HB_ := Lib.hid hB
      have HC_ := Lib.hid hcell
      have HX := Lib.hid hReach
      clear hL hB hcell hReach
      go_upto_region 14 with (fail)
      go_cut [20] from 56 to 115 (fun s20 wc => s20 = .bool cl ∧ wc = wr)
      case first =>
        rename_i J K' hJ hK
        have HJ := Lib.hid hJ; clear hJ
        rcases ht with ⟨t1, t2, rfl⟩ | ⟨t1, t2, rfl⟩ | ⟨t1, rfl⟩
        all_goals
          go_wp2_with fail
          have hJ := HJ.out
          go_meet
          exact ⟨rfl, rfl⟩
      case rest =>
        obtain ⟨rfl, rfl⟩ := hcut
        clear ht
        go_upto_region 15 with (fail)
        go_cut [21, 22] from 56 to 115 (fun s21 s22 wc => s22 = .int .i64 0 ∧ ∃ g4, s21 = .pointer (some ⟨g4, 0, none⟩) ∧ Lkb wc g4 (1 + nn) (1 + mm) u' d' b' ∧ Lkb wc w2.heap.size (1 + nn) (1 + mm) u d b ∧ w2.heap.size < g4 ∧ Below w.heap.size w wc ∧ wc.cell? (ad.add j) = some (.int .i64 x))
        case first =>
          rename_i J K' hJ hK
          have HJ := Lib.hid hJ; clear hJ
          go_wp2_with fail
          refine (H17.out _).mono ?_
          rintro e w4 ⟨rfl, hb4⟩
          clear c0 c1 c2 c3 c4 hfr
          have Hb4 := Lib.hid hb4
          clear hb4
          go_wp2_with fail
          have hJ := HJ.out
          go_meet
          refine ⟨rfl, w4.heap.size, rfl, heap_new_at _ _ _ rfl, ?_, ?_, ?_, ?_⟩
          · exact (HL_.out.below Hb4.out hglt).alloc _
          · have := Hb4.out.size; omega
          · exact balloc (bthen HB_.out Hb4.out) _
          · exact ((below1 w4 _).cell (by rw [add_block]; have := block_of_cell HC_.out; rw [add_block] at this; have := Hb4.out.size; omega)).trans ((Hb4.out.cell (by have := block_of_cell HC_.out; exact this)).trans HC_.out)
        case rest =>
          obtain ⟨rfl, g4, rfl, hL4, hL, hg4, hB4, hcell4⟩ := hcut
          clear c0 c1 c2 c3 c4 hfr
          have hlt4 := hL4.lt
          obtain ⟨d0, d1, d2, d3, d4⟩ := hL4.cells
          obtain ⟨c0, c1, c2, c3, c4⟩ := hL.cells
          have hfr := hL.frozen
          have hlt5 := hL.lt
          have HL5 := Lib.hid hL; clear hL
          have HB5 := Lib.hid hB4; clear hB4
          have HC5 := Lib.hid hcell4; clear hcell4 hL4
          obtain ⟨wo, rfl⟩ : ∃ wo : World, wo = wc := ⟨_, rfl⟩
          go_upto_region 16 with (fail)
          go_cut [100] from 56 to 115 (fun s wx => s = .bool false ∧ wx = wo)
          case first =>
            rename_i J K' hJ hK
            have HJ := Lib.hid hJ; clear hJ
            cases b'
            · go_wp2_with fail
              have hJ := HJ.out
              go_meet
              exact ⟨rfl, rfl⟩
            · obtain ⟨hr1, hr2⟩ := HX.out rfl
              go_wp2_with fail
              have hJ := HJ.out
              go_meet
              exact ⟨by rw [decide_eq_false (by omega), decide_eq_false (by omega)]; rfl, rfl⟩
          case rest =>
            obtain ⟨rfl, rfl⟩ := hcut
            go_upto_region 18 with (fail)
            go_cut [] from 56 to 115 (fun wx => Lkb wx w2.heap.size (1 + nn) (1 + mm) u' d' b' ∧ Below w.heap.size w wx ∧ wx.cell? (ad.add j) = some (.int .i64 x))
            case first =>
              rename_i J K' hJ hK
              have HJ := Lib.hid hJ; clear hJ
              go_wp2_with fail
              have hJ := HJ.out
              go_meet
              refine ⟨HL5.out.set5 _ _ _ _ _, below_set5 HB5.out (by omega) _ _ _ _ _, ?_⟩
              exact ((below_set5 (Below.refl w2.heap.size wc) (g := w2.heap.size) (Nat.le_refl _) _ _ _ _ _).cell (by rw [add_block]; omega)).trans HC5.out
            case rest =>
              obtain ⟨hL7, hB7, hC7⟩ := hcut
              clear c0 c1 c2 c3 c4 d0 d1 d2 d3 d4 hfr
              have HL7 := Lib.hid hL7; clear hL7
              have HB7 := Lib.hid hB7; clear hB7
              go_upto_region 19 with (fail)
              go_wp2_with fail
              refine (PM.out _).mono ?_
              rintro e v ⟨rfl, rfl⟩
              go_wp2_with fail
              refine (down_any _ _ (by omega) (by omega)).mono ?_
              rintro e v ⟨rfl, rfl⟩
              go_wp2_with fail
              refine (down_any _ _ (by omega) (by omega)).mono ?_
              rintro e v ⟨rfl, rfl⟩
              go_wp2_with fail
              have hKK := HK.out
              go_roundw
              case rel =>
                refine ⟨j + 1, _, u', d', b', by omega, by go_num, rfl, ?_, ?_, ?_, HL7.out, HB7.out⟩
                · have hI := HI'.out
                  have e1 : off + mv - 1 - (((j : Int) + 1) * (rt - 64) / 1024 - (j : Int) * (rt - 64) / 1024) = off + (mv - 1) - (((j : Int) + 1) * (rt - 64) / 1024 - (j : Int) * (rt - 64) / 1024) := by omega
                  rw [e1]
                  exact hI
                · omega
                · omega
              case measure => simp [intOf]; omega
    · go_wp2_with fail
      go_ret
      exact ⟨rfl, hB⟩
theorem lockReach_walk (a0 a1 a2 a3 : Int) (A : Option Addr) (k c : Nat) (ls : List Int) (w : World) (hl : ls.length = k) (hr : ReadsI w w.heap.size A ls) :
    Calls Try.prog 8 #[.int .i64 a0, .int .i64 a1, .int .i64 a2, .int .i64 a3, .slice A k c] w fun e w' => e = .returned (.bool true) ∧ Below w.heap.size w w' := by
  by_cases hk : k ≤ 200
  · exact far_short a0 a1 a2 a3 A k c ls w hk hl hr _ _ _ _ rfl rfl rfl rfl
  · exact far_long a0 a1 a2 a3 A k c w (by omega)
end Go.Proofs.Ytffchacanekhgaa
