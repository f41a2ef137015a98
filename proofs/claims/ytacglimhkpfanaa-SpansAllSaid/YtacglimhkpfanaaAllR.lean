/-
  WALK: All of the reference.
-/
import Derived.Test.YtacglimhkpfanaaStepR
import Derived.Deep.CutRange
import Derived.Deep.CutBlock
import Derived.Deep.RegionLaw
import Derived.Deep.QuietTactic
import Derived.BigQuiet
import Derived.Outline
namespace Go.Proofs.Ytacglimhkpfanaa
open Go.RowKit

set_option maxHeartbeats 4000000 in
theorem all20_loop (l over rx : Int) (A : Option Addr) (k c : Nat) (cs : List Plain.Tri) (w : World) (hl : cs.length = k) (hk : k ≤ 16) (hr : Reads3 w w.heap.size A cs) (b : Int) (hbv : Plain.bndV l over = b) (hbe : Plain.bndE l over = 0)
    (V : List Plain.Tri) (E : Int) (hV : Plain.allV l over rx cs = V) (hE : Plain.allE l over rx cs = E) :
    Calls Try.prog 20 #[.int .i64 l, .int .i64 over, .int .i64 rx, .slice A k c] w fun e w' => ∃ A' n c', e = .returned (.tuple #[.slice A' n c', .int .i64 E]) ∧ V.length = n ∧ Reads3 w' w'.heap.size A' V ∧ Below w.heap.size w w' := by
  have HB := Lib.hid (fun W => bound13_is l over b 0 hbv hbe W)
  have HLen := Lib.hid (fun (x : Plain.Tri) (v e : Int) (hv : Plain.cV l rx x = v) (he : Plain.cE l rx x = e) W => rlength_is l rx x.1 x.2.1 x.2.2 v e hv he W)
  have HVe := Lib.hid (show ∀ e, Plain.errs l rx cs = e → e ≠ 0 → V = [] ∧ E = e from fun e he hne => by
    have h1 : Plain.allE l over rx cs = e := by unfold Plain.allE; rw [if_pos hbe, if_pos (by omega), if_neg (by rw [he]; exact hne), he]
    exact ⟨by rw [← hV]; unfold Plain.allV; rw [if_neg (by rw [h1]; exact hne)], by rw [← hE, h1]⟩)
  have HVd := Lib.hid (show Plain.errs l rx cs = 0 → Plain.dup cs = true → V = [] ∧ E = 8 from fun he hd => by
    have h1 : Plain.allE l over rx cs = 8 := by unfold Plain.allE; rw [if_pos hbe, if_pos (by omega), if_pos he, if_pos hd]
    exact ⟨by rw [← hV]; unfold Plain.allV; rw [if_neg (by rw [h1]; decide)], by rw [← hE, h1]⟩)
  have HVs := Lib.hid (show Plain.errs l rx cs = 0 → Plain.dup cs = false → V = Plain.srt (cs.map (Plain.spn l rx b)) ∧ E = 0 from fun he hd => by
    have h1 : Plain.allE l over rx cs = 0 := by unfold Plain.allE; rw [if_pos hbe, if_pos (by omega), if_pos he, if_neg (by rw [hd]; decide)]
    exact ⟨by rw [← hV]; unfold Plain.allV; rw [if_pos h1, hbv], by rw [← hE, h1]⟩)
  clear hV hE hbe hbv
  have HL := Lib.hid hl; clear hl
  have HR := Lib.hid hr; clear hr
  obtain ⟨i0, hi, hz0, hz1, hz2⟩ := info_parts info44
  go_enter Try.func20, Try.ntmps20
  go_wp2_with fail
  refine (HB.out _).mono ?_
  rintro e w1 ⟨rfl, rfl⟩
  go_wp2_with fail
  go_loopw [12, 13] (fun v i wr => ∃ j : Nat, j ≤ k ∧ i = .int .i64 j ∧ Hid (Plain.errs l rx (cs.take j) = 0) ∧ Hid (wr.ownsRow w.heap.size 44 3 v j (flat3 (Plain.srt ((cs.take j).map (Plain.spn l rx b))))) ∧ Below w.heap.size w wr) (fun _ i _ => k - (intOf i).toNat)
  case atStart => exact ⟨0, Nat.zero_le _, rfl, Lib.hid rfl, Lib.hid ⟨by simp [flat3, Plain.srt], Or.inl ⟨rfl, rfl⟩⟩, Below.refl _ _⟩
  case round =>
    obtain ⟨j, hj, rfl, hE0, hO, hB⟩ := hrel
    by_cases hlt : j < k
    · have hjl : j < cs.length := by rw [HL.out]; exact hlt
      have hRj := HR.out.below hB (Nat.le_refl _)
      obtain ⟨ad, hA, hab, h0, h1, h2⟩ := hRj j hjl
      subst hA
      have htk := List.take_succ_eq_append_getElem hjl
      have hes := fun h => Plain.errs_take_succ l rx cs j hjl hE0.out h
      have hen := fun h => Plain.errs_take_ne l rx cs j hjl hE0.out h
      have HTK := Lib.hid (show Plain.srt ((cs.take (j + 1)).map (Plain.spn l rx b)) = Plain.ins (Plain.spn l rx b cs[j]) (Plain.srt ((cs.take j).map (Plain.spn l rx b))) by rw [htk, List.map_append]; exact Plain.srt_snoc _ _)
      clear htk
      obtain ⟨out, hout⟩ : ∃ o, Plain.srt ((cs.take j).map (Plain.spn l rx b)) = o := ⟨_, rfl⟩
      rw [hout] at hO HTK
      clear hout
      obtain ⟨x, hx⟩ : ∃ x, cs[j] = x := ⟨_, rfl⟩
      rw [hx] at h0 h1 h2 hes hen HTK
      clear hx
      obtain ⟨v, hv⟩ : ∃ v, Plain.cV l rx x = v := ⟨_, rfl⟩
      obtain ⟨e0, he0⟩ : ∃ v, Plain.cE l rx x = v := ⟨_, rfl⟩
      have HC := Lib.hid (HLen.out x v e0 hv he0)
      rw [he0] at hes hen
      have HSP := Lib.hid (show Plain.spn l rx b x = (x.1, v, b) by unfold Plain.spn; rw [hv])
      clear hv he0
      have HES := Lib.hid hes; clear hes
      have HEN := Lib.hid hen; clear hen
      have HBr := Lib.hid hB; clear hB
      have hsz := HBr.out.size
      have hg0 := block_of_cell h0
      have HX0 := Lib.hid h0
      go_wp2_with fail
      refine (HC.out _).mono ?_
      rintro e w2 ⟨rfl, hb2⟩
      have h0' := (hb2.cell (p := ad.add (j * 3)) hg0).trans h0
      have hs2 := hb2.size
      have HB2 := Lib.hid hb2; clear hb2
      clear h0 h1 h2 hRj
      by_cases hez : e0 = 0
      · subst hez
        have HO2 := Lib.hid (own_below hO.out HB2.out)
        clear hO
        obtain ⟨hlen, hcase⟩ := own_reads3 HO2.out
        have HLN := Lib.hid hlen; clear hlen
        have HBw := Lib.hid (HBr.out.trans (HB2.out.mono HBr.out.size))
        clear HBr HB2
        rcases hcase with ⟨rfl, hj0⟩ | ⟨g, cap, rfl, hge, hg, hcells⟩
        · have HJ0 := Lib.hid hj0; clear hj0
          go_upto_block 2 with (fail)
          go_cut [16] from 48 to 66 (fun s16 wx => s16 = .int .i64 0 ∧ Below w2.heap.size w2 wx)
          case first =>
            rename_i J K' hJ hK
            have HJ := Lib.hid hJ; clear hJ
            go_wp2_with fail
            go_loopw [16] (fun i wr => i = .int .i64 0 ∧ Below w2.heap.size w2 wr) (fun _ _ => 0)
            case atStart => exact ⟨rfl, Below.refl _ _⟩
            case round =>
              obtain ⟨rfl, hBi⟩ := hrel
              have HBi := Lib.hid hBi; clear hBi
              go_wp2_with fail
              go_quiet (fail)
              go_wp2_with fail
              have hJ := HJ.out
              go_meet
              exact ⟨rfl, below_drewN HBi.out _⟩
          case rest =>
            obtain ⟨rfl, hBi⟩ := hcut
            obtain ⟨wN, rfl⟩ : ∃ wo : World, wo = wc := ⟨_, rfl⟩
            have h0N := (hBi.cell (p := ad.add (j * 3)) (by have := add_block ad (j * 3); rw [add_block]; omega)).trans h0'
            go_upto_region 16 with (fail)
            have hgN : (ad.add (j * 3)).block < wN.heap.size := block_of_cell h0N
            have hcA : ∀ o, (wN.alloc o).cell? (ad.add (j * 3)) = some (.int .i64 x.1) := fun o => ((below1 wN o).cell hgN).trans h0N
            have hcB : ∀ o o', ((wN.alloc o).alloc o').cell? (ad.add (j * 3)) = some (.int .i64 x.1) := fun o o' => (((below1 wN o).alloc (by simp) o').cell hgN).trans h0N
            have b1 : Below wN.heap.size wN (wN.alloc (.cells #[] 44)).drew := (below1 wN _).drew
            have b2 : Below wN.heap.size wN ((wN.alloc (.cells #[] 44)).alloc (.cells #[.int .i64 x.1, .int .i64 v, .int .i64 b] 44)).drew := ((below1 wN _).alloc (by simp) _).drew
            have b3 : Below wN.heap.size wN ((wN.alloc (.cells #[.int .i64 x.1, .int .i64 v, .int .i64 b] 44)).alloc (.cells #[] 44)).drew := ((below1 wN _).alloc (by simp) _).drew
            have OA1 := Lib.hid (show ((wN.alloc (.cells #[] 44)).drew).ownsRow wN.heap.size 44 3 (.slice (some ⟨wN.heap.size, 0, none⟩) 0 0) 0 [] from (own_e wN _ (Nat.le_refl _)).drew)
            have OA2 := Lib.hid (show (((wN.alloc (.cells #[] 44)).alloc (.cells #[.int .i64 x.1, .int .i64 v, .int .i64 b] 44)).drew).ownsRow wN.heap.size 44 3 (.slice (some ⟨wN.heap.size, 0, none⟩) 0 0) 0 [] from ((own_e wN _ (Nat.le_refl _)).alloc _).drew)
            have OA3 := Lib.hid (show (((wN.alloc (.cells #[.int .i64 x.1, .int .i64 v, .int .i64 b] 44)).alloc (.cells #[] 44)).drew).ownsRow wN.heap.size 44 3 (.slice (some ⟨wN.heap.size + 1, 0, none⟩) 0 0) 0 [] from by
              have := (own_e (wN.alloc (.cells #[.int .i64 x.1, .int .i64 v, .int .i64 b] 44)) wN.heap.size (by simp)).drew
              simpa using this)
            have NA1 := Lib.hid b1.size
            have NA2 := Lib.hid b2.size
            have NA3 := Lib.hid b3.size
            have GA1 := Lib.hid (fun (w5 : World) (hg5 : ((wN.alloc (.cells #[] 44)).drew).grownBy w5 (some wN.heap.size)) => b1.grown hg5 b1.size (fun r hr => by cases hr; exact Nat.le_refl _))
            have GA2 := Lib.hid (fun (w5 : World) (hg5 : (((wN.alloc (.cells #[] 44)).alloc (.cells #[.int .i64 x.1, .int .i64 v, .int .i64 b] 44)).drew).grownBy w5 (some wN.heap.size)) => b2.grown hg5 b2.size (fun r hr => by cases hr; exact Nat.le_refl _))
            have GA3 := Lib.hid (fun (w5 : World) (hg5 : (((wN.alloc (.cells #[.int .i64 x.1, .int .i64 v, .int .i64 b] 44)).alloc (.cells #[] 44)).drew).grownBy w5 (some (wN.heap.size + 1))) => b3.grown hg5 b3.size (fun r hr => by cases hr; exact Nat.le_succ _))
            have XA2 := Lib.hid (fun (w5 : World) (hg5 : (((wN.alloc (.cells #[] 44)).alloc (.cells #[.int .i64 x.1, .int .i64 v, .int .i64 b] 44)).drew).grownBy w5 (some wN.heap.size)) => show ∀ j u, [Value.int .i64 x.1, .int .i64 v, .int .i64 b][j]? = some u → w5.cell? ((⟨wN.heap.size + 1, 0, none⟩ : Addr).add j) = some u from fun j u hu =>
              hg5.cell (by have := new3 (wN.alloc (.cells #[] 44)) (.int .i64 x.1) (.int .i64 v) (.int .i64 b) 44 j u hu; simpa using this) (by rw [add0]; simp))
            have XA3 := Lib.hid (fun (w5 : World) (hg5 : (((wN.alloc (.cells #[.int .i64 x.1, .int .i64 v, .int .i64 b] 44)).alloc (.cells #[] 44)).drew).grownBy w5 (some (wN.heap.size + 1))) => show ∀ j u, [Value.int .i64 x.1, .int .i64 v, .int .i64 b][j]? = some u → w5.cell? ((⟨wN.heap.size, 0, none⟩ : Addr).add j) = some u from fun j u hu =>
              hg5.cell (((below1 (wN.alloc (.cells #[.int .i64 x.1, .int .i64 v, .int .i64 b] 44)) (.cells #[] 44)).cell (by rw [add0]; simp)).trans (new3 wN (.int .i64 x.1) (.int .i64 v) (.int .i64 b) 44 j u hu)) (by rw [add0]; simp))
            have M1 := Lib.hid (show 0 + 0 ≤ maxLen by unfold maxLen; omega)
            have M2 := Lib.hid (show (0 + 0) * 24 ≤ 140737488355328 by omega)
            have M3 := Lib.hid (show 0 + 0 + 1 ≤ maxLen by unfold maxLen; omega)
            have M4 := Lib.hid (show (0 + 0 + 1) * 24 ≤ 140737488355328 by omega)
            have M5 := Lib.hid (show 0 + 0 + 1 + 0 ≤ maxLen by unfold maxLen; omega)
            have M6 := Lib.hid (show (0 + 0 + 1 + 0) * 24 ≤ 140737488355328 by omega)
            have HBiN := Lib.hid hBi; clear hBi
            clear b1 b2 b3
            go_region_law (first
              | (refine step_append_opt rfl (.tmp 67) (.tmp 70) 35 rfl wN.heap.size 44 i0 (.agg #[.int .i64 0, .int .i64 0, .int .i64 0]) 3 24 Try.underlying35 hi hz0 hz1 hz2 rfl (by decide) (.slice (some ⟨wN.heap.size, 0, none⟩) 0 0) 0 _ (by first | (simp [Act.eval]; done) | (unfold Act.put; simp [Act.eval]; done)) OA1.out none 0 0 (flat3 ([] : List Plain.Tri)) (by first | (simp [Act.eval]; done) | (unfold Act.put; simp [Act.eval]; done)) (fun _ => ⟨rfl, rfl⟩) rfl (fun ad e => by cases e) (flat3_one _) M1.out M2.out NA1.out ?_; intro v5 w5 ho5 hg5; have hb5 := GA1.out _ hg5; have h05 := (hb5.cell (p := ad.add (j * 3)) hgN).trans h0N)
              | (refine step_append_opt rfl (.tmp 67) (.tmp 70) 35 rfl wN.heap.size 44 i0 (.agg #[.int .i64 0, .int .i64 0, .int .i64 0]) 3 24 Try.underlying35 hi hz0 hz1 hz2 rfl (by decide) (.slice (some ⟨wN.heap.size, 0, none⟩) 0 0) 0 _ (by first | (simp [Act.eval]; done) | (unfold Act.put; simp [Act.eval]; done)) OA2.out none 0 0 (flat3 ([] : List Plain.Tri)) (by first | (simp [Act.eval]; done) | (unfold Act.put; simp [Act.eval]; done)) (fun _ => ⟨rfl, rfl⟩) rfl (fun ad e => by cases e) (flat3_one _) M1.out M2.out NA2.out ?_; intro v5 w5 ho5 hg5; have hb5 := GA2.out _ hg5; have h05 := (hb5.cell (p := ad.add (j * 3)) hgN).trans h0N; have hx5 := XA2.out _ hg5)
              | (refine step_append_opt rfl (.tmp 67) (.tmp 70) 35 rfl wN.heap.size 44 i0 (.agg #[.int .i64 0, .int .i64 0, .int .i64 0]) 3 24 Try.underlying35 hi hz0 hz1 hz2 rfl (by decide) (.slice (some ⟨(wN.heap.size + 1), 0, none⟩) 0 0) 0 _ (by first | (simp [Act.eval]; done) | (unfold Act.put; simp [Act.eval]; done)) OA3.out none 0 0 (flat3 ([] : List Plain.Tri)) (by first | (simp [Act.eval]; done) | (unfold Act.put; simp [Act.eval]; done)) (fun _ => ⟨rfl, rfl⟩) rfl (fun ad e => by cases e) (flat3_one _) M1.out M2.out NA3.out ?_; intro v5 w5 ho5 hg5; have hb5 := GA3.out _ hg5; have h05 := (hb5.cell (p := ad.add (j * 3)) hgN).trans h0N; have hx5 := XA3.out _ hg5)
              | (refine step_append_opt rfl (.tmp 71) (.tmp 80) 35 rfl wN.heap.size 44 i0 (.agg #[.int .i64 0, .int .i64 0, .int .i64 0]) 3 24 Try.underlying35 hi hz0 hz1 hz2 rfl (by decide) v5 (0 + 0) _ (by first | (simp [Act.eval]; done) | (unfold Act.put; simp [Act.eval]; done)) (ho5.alloc _) (some ⟨w5.heap.size, 0, none⟩) 1 1 [.int .i64 x.1, .int .i64 v, .int .i64 b] (by first | (simp [Act.eval]; done) | (unfold Act.put; simp [Act.eval]; done)) (fun h => by cases h) rfl (fun ad e => by cases e; exact new3 _ _ _ _ _) (flat3_one [(x.1, v, b)]) M3.out M4.out (Nat.le_trans hb5.size (by simp)) ?_; intro v6 w6 ho6 hg6; have hb6 := (hb5.alloc hb5.size _).grown hg6 (Nat.le_trans hb5.size (by simp)) (own_block ho5); clear hb5)
              | (refine step_append_opt rfl (.tmp 71) (.tmp 80) 35 rfl wN.heap.size 44 i0 (.agg #[.int .i64 0, .int .i64 0, .int .i64 0]) 3 24 Try.underlying35 hi hz0 hz1 hz2 rfl (by decide) v5 (0 + 0) _ (by first | (simp [Act.eval]; done) | (unfold Act.put; simp [Act.eval]; done)) ho5 (some ⟨(wN.heap.size + 1), 0, none⟩) 1 1 [.int .i64 x.1, .int .i64 v, .int .i64 b] (by first | (simp [Act.eval]; done) | (unfold Act.put; simp [Act.eval]; done)) (fun h => by cases h) rfl (fun ad e => by cases e; exact hx5) (flat3_one [(x.1, v, b)]) M3.out M4.out hb5.size ?_; intro v6 w6 ho6 hg6; have hb6 := hb5.grown hg6 hb5.size (own_block ho5); clear hb5)
              | (refine step_append_opt rfl (.tmp 71) (.tmp 80) 35 rfl wN.heap.size 44 i0 (.agg #[.int .i64 0, .int .i64 0, .int .i64 0]) 3 24 Try.underlying35 hi hz0 hz1 hz2 rfl (by decide) v5 (0 + 0) _ (by first | (simp [Act.eval]; done) | (unfold Act.put; simp [Act.eval]; done)) ho5 (some ⟨wN.heap.size, 0, none⟩) 1 1 [.int .i64 x.1, .int .i64 v, .int .i64 b] (by first | (simp [Act.eval]; done) | (unfold Act.put; simp [Act.eval]; done)) (fun h => by cases h) rfl (fun ad e => by cases e; exact hx5) (flat3_one [(x.1, v, b)]) M3.out M4.out hb5.size ?_; intro v6 w6 ho6 hg6; have hb6 := hb5.grown hg6 hb5.size (own_block ho5); clear hb5)
              | (refine step_append_opt rfl (.tmp 81) (.tmp 84) 35 rfl wN.heap.size 44 i0 (.agg #[.int .i64 0, .int .i64 0, .int .i64 0]) 3 24 Try.underlying35 hi hz0 hz1 hz2 rfl (by decide) v6 (0 + 0 + 1) _ (by first | (simp [Act.eval]; done) | (unfold Act.put; simp [Act.eval]; done)) ho6 none 0 0 (flat3 ([] : List Plain.Tri)) (by first | (simp [Act.eval]; done) | (unfold Act.put; simp [Act.eval]; done)) (fun _ => ⟨rfl, rfl⟩) rfl (fun ad e => by cases e) (flat3_one _) M5.out M6.out hb6.size ?_; intro v7 w7 ho7 hg7; have hb7 := hb6.grown hg7 hb6.size (own_block ho6); clear hb6))
            all_goals
              have HO7 := Lib.hid ho7; clear ho7
              have HB7 := Lib.hid hb7; clear hb7
              clear ho6 hg7 ho5 hg5 hg6
              go_wp2_with fail
              go_roundw
              case rel =>
                refine ⟨j + 1, by omega, by go_num, Lib.hid (HES.out (by first | rfl | trivial)), Lib.hid ?_, (HBw.out.trans (HBiN.out.mono HBw.out.size)).trans (HB7.out.mono (HBw.out.trans (HBiN.out.mono HBw.out.size)).size)⟩
                have ho := HO7.out
                have hout : out = [] := List.length_eq_zero_iff.1 (by rw [HLN.out]; exact HJ0.out)
                rw [HTK.out, HSP.out, hout]
                exact ins_close (t := 0) (m := 0) (A := []) (B := []) (HBw.out.trans (HBiN.out.mono HBw.out.size)).size ho (by rw [HJ0.out])
              case measure => simp [intOf]; omega
        · have HG := Lib.hid hcells; clear hcells
          have HCJ := Lib.hid (own_cap HO2.out)
          go_upto_block 2 with (fail)
          go_cut [16] from 48 to 66 (fun s16 wx => ∃ t : Nat, t ≤ j ∧ s16 = .int .i64 t ∧ Hid (Plain.ins (x.1, v, b) out = out.take t ++ (x.1, v, b) :: out.drop t) ∧ Below w2.heap.size w2 wx)
          case first =>
            rename_i J K' hJ hK
            have HJ := Lib.hid hJ; clear hJ
            go_wp2_with fail
            go_loopw [16] (fun i wr => ∃ t : Nat, t ≤ j ∧ i = .int .i64 t ∧ Hid (∀ a (_ : a < out.length), a < t → out[a].1 < x.1) ∧ Below w2.heap.size w2 wr) (fun i _ => j - (intOf i).toNat)
            case atStart => exact ⟨0, Nat.zero_le _, rfl, Lib.hid (fun a h1 h2 => by omega), Below.refl _ _⟩
            case round =>
              obtain ⟨t, ht, rfl, hT, hBi⟩ := hrel
              have h0i := (hBi.cell (p := ad.add (j * 3)) (by rw [add_block]; have := add_block ad (j * 3); omega)).trans h0'
              by_cases hlt2 : t < j
              · have htl : t < out.length := by rw [HLN.out]; exact hlt2
                have ho := (hBi.cell (p := ⟨g, t * 3, none⟩) hg).trans (HG.out _ _ (flat3_get out t htl).1).1
                have HBi := Lib.hid hBi; clear hBi
                by_cases hle : out[t].1 < x.1
                · have HLE := Lib.hid hle
                  generalize out[t].1 = y at ho hle
                  go_wp2_with fail
                  go_quiet (fail)
                  go_wp2_with fail
                  go_roundw
                  case rel => exact ⟨t + 1, by omega, by go_num, Lib.hid (fun a h1 h2 => by
                    by_cases ha : a < t
                    · exact hT.out a h1 ha
                    · obtain rfl : a = t := by omega
                      exact HLE.out), below_drewN HBi.out _⟩
                  case measure => simp [intOf]; omega
                · have HIN := Lib.hid (Plain.ins_at (Plain.spn l rx b x) out t (by omega) (fun a ha => hT.out a (by omega) ha) (fun _ => hle))
                  rw [HSP.out] at HIN
                  generalize out[t].1 = y at ho hle
                  go_wp2_with fail
                  go_quiet (fail)
                  go_wp2_with fail
                  have hJ := HJ.out
                  go_meet
                  exact ⟨t, ht, rfl, HIN, below_drewN HBi.out _⟩
              · have hd : decide (t < j) = false := by simp; omega
                have HIN := Lib.hid (Plain.ins_at (Plain.spn l rx b x) out t (by have := HLN.out; omega) (fun a ha => hT.out a (by have := HLN.out; omega) ha) (fun h => by have := HLN.out; omega))
                rw [HSP.out] at HIN
                have HBi := Lib.hid hBi; clear hBi
                go_wp2_with fail
                go_quiet (fail)
                go_wp2_with fail
                have hJ := HJ.out
                go_meet
                exact ⟨t, ht, rfl, HIN, below_drewN HBi.out _⟩
          case rest =>
            obtain ⟨t, ht, rfl, hI, hBi⟩ := hcut
            obtain ⟨wN, rfl⟩ : ∃ wo : World, wo = wc := ⟨_, rfl⟩
            have h0N := (hBi.cell (p := ad.add (j * 3)) (by have := add_block ad (j * 3); rw [add_block]; omega)).trans h0'
            go_upto_region 16 with (fail)
            have hgN : (ad.add (j * 3)).block < wN.heap.size := block_of_cell h0N
            have hcA : ∀ o, (wN.alloc o).cell? (ad.add (j * 3)) = some (.int .i64 x.1) := fun o => ((below1 wN o).cell hgN).trans h0N
            have hcB : ∀ o o', ((wN.alloc o).alloc o').cell? (ad.add (j * 3)) = some (.int .i64 x.1) := fun o o' => (((below1 wN o).alloc (by simp) o').cell hgN).trans h0N
            have hgN2 : g < wN.heap.size := Nat.lt_of_lt_of_le hg hBi.size
            have hcd : ∀ i u, (flat3 out)[i]? = some u → wN.cell? ⟨g, i, none⟩ = some u := fun i u hu => (hBi.cell (p := ⟨g, i, none⟩) hg).trans (HG.out i u hu).1
            have hspl : flat3 out = flat3 (out.take t) ++ flat3 (out.drop t) := by rw [← flat3_append, List.take_append_drop]
            have hlt3 : (flat3 (out.take t)).length = t * 3 := by rw [flat3_length, List.length_take]; have := HLN.out; omega
            have hcd1 : ∀ i u, (flat3 (out.take t))[i]? = some u → wN.cell? ⟨g, 0 + i, none⟩ = some u := fun i u hu => by
              rw [Nat.zero_add]
              exact hcd i u (by rw [hspl, List.getElem?_append_left (by exact (List.getElem?_eq_some_iff.1 hu).1)]; exact hu)
            have hcd2 : ∀ i u, (flat3 (out.drop t))[i]? = some u → wN.cell? ⟨g, t * 3 + i, none⟩ = some u := fun i u hu =>
              hcd (t * 3 + i) u (by rw [hspl, List.getElem?_append_right (by omega), hlt3, show t * 3 + i - t * 3 = i by omega]; exact hu)
            have b1 : Below wN.heap.size wN (wN.alloc (.cells #[] 44)).drew := (below1 wN _).drew
            have b2 : Below wN.heap.size wN ((wN.alloc (.cells #[] 44)).alloc (.cells #[.int .i64 x.1, .int .i64 v, .int .i64 b] 44)).drew := ((below1 wN _).alloc (by simp) _).drew
            have b3 : Below wN.heap.size wN ((wN.alloc (.cells #[.int .i64 x.1, .int .i64 v, .int .i64 b] 44)).alloc (.cells #[] 44)).drew := ((below1 wN _).alloc (by simp) _).drew
            have OA1 := Lib.hid (show ((wN.alloc (.cells #[] 44)).drew).ownsRow wN.heap.size 44 3 (.slice (some ⟨wN.heap.size, 0, none⟩) 0 0) 0 [] from (own_e wN _ (Nat.le_refl _)).drew)
            have OA2 := Lib.hid (show (((wN.alloc (.cells #[] 44)).alloc (.cells #[.int .i64 x.1, .int .i64 v, .int .i64 b] 44)).drew).ownsRow wN.heap.size 44 3 (.slice (some ⟨wN.heap.size, 0, none⟩) 0 0) 0 [] from ((own_e wN _ (Nat.le_refl _)).alloc _).drew)
            have OA3 := Lib.hid (show (((wN.alloc (.cells #[.int .i64 x.1, .int .i64 v, .int .i64 b] 44)).alloc (.cells #[] 44)).drew).ownsRow wN.heap.size 44 3 (.slice (some ⟨wN.heap.size + 1, 0, none⟩) 0 0) 0 [] from by
              have := (own_e (wN.alloc (.cells #[.int .i64 x.1, .int .i64 v, .int .i64 b] 44)) wN.heap.size (by simp)).drew
              simpa using this)
            have CA1 := Lib.hid (cells_in b1 hgN2 hcd1)
            have CA2 := Lib.hid (cells_in b2 hgN2 hcd1)
            have CA3 := Lib.hid (cells_in b3 hgN2 hcd1)
            have NA1 := Lib.hid b1.size
            have NA2 := Lib.hid b2.size
            have NA3 := Lib.hid b3.size
            have GA1 := Lib.hid (fun (w5 : World) (hg5 : ((wN.alloc (.cells #[] 44)).drew).grownBy w5 (some wN.heap.size)) => b1.grown hg5 b1.size (fun r hr => by cases hr; exact Nat.le_refl _))
            have GA2 := Lib.hid (fun (w5 : World) (hg5 : (((wN.alloc (.cells #[] 44)).alloc (.cells #[.int .i64 x.1, .int .i64 v, .int .i64 b] 44)).drew).grownBy w5 (some wN.heap.size)) => b2.grown hg5 b2.size (fun r hr => by cases hr; exact Nat.le_refl _))
            have GA3 := Lib.hid (fun (w5 : World) (hg5 : (((wN.alloc (.cells #[.int .i64 x.1, .int .i64 v, .int .i64 b] 44)).alloc (.cells #[] 44)).drew).grownBy w5 (some (wN.heap.size + 1))) => b3.grown hg5 b3.size (fun r hr => by cases hr; exact Nat.le_succ _))
            have XA2 := Lib.hid (fun (w5 : World) (hg5 : (((wN.alloc (.cells #[] 44)).alloc (.cells #[.int .i64 x.1, .int .i64 v, .int .i64 b] 44)).drew).grownBy w5 (some wN.heap.size)) => show ∀ j u, [Value.int .i64 x.1, .int .i64 v, .int .i64 b][j]? = some u → w5.cell? ((⟨wN.heap.size + 1, 0, none⟩ : Addr).add j) = some u from fun j u hu =>
              hg5.cell (by have := new3 (wN.alloc (.cells #[] 44)) (.int .i64 x.1) (.int .i64 v) (.int .i64 b) 44 j u hu; simpa using this) (by rw [add0]; simp))
            have XA3 := Lib.hid (fun (w5 : World) (hg5 : (((wN.alloc (.cells #[.int .i64 x.1, .int .i64 v, .int .i64 b] 44)).alloc (.cells #[] 44)).drew).grownBy w5 (some (wN.heap.size + 1))) => show ∀ j u, [Value.int .i64 x.1, .int .i64 v, .int .i64 b][j]? = some u → w5.cell? ((⟨wN.heap.size, 0, none⟩ : Addr).add j) = some u from fun j u hu =>
              hg5.cell (((below1 (wN.alloc (.cells #[.int .i64 x.1, .int .i64 v, .int .i64 b] 44)) (.cells #[] 44)).cell (by rw [add0]; simp)).trans (new3 wN (.int .i64 x.1) (.int .i64 v) (.int .i64 b) 44 j u hu)) (by rw [add0]; simp))
            obtain ⟨AB, hAB⟩ : ∃ A, (if cap = t then some (⟨g, 0, none⟩ : Addr) else some ⟨g, t * 3, none⟩) = A := ⟨_, rfl⟩
            have CB := Lib.hid (show ∀ w6, Below wN.heap.size wN w6 → ∀ ad, AB = some ad → ∀ j u, (flat3 (out.drop t))[j]? = some u → w6.cell? (ad.add j) = some u from fun w6 hb6 => by
              subst hAB
              by_cases hct : cap = t
              · have hcj : j ≤ cap := HCJ.out
                have : out.drop t = [] := List.drop_eq_nil_of_le (by have := HLN.out; omega)
                rw [this]
                intro ad _ j u hu
                simp [flat3] at hu
              · rw [if_neg hct]
                exact cells_in hb6 hgN2 hcd2)
            have HAB0 := Lib.hid (show AB = none → j - t = 0 ∧ cap - t = 0 from fun h => by subst hAB; split at h <;> cases h)
            have FL1 := Lib.hid hlt3
            have FL2 := Lib.hid (show (flat3 (out.drop t)).length = (j - t) * 3 by rw [flat3_length, List.length_drop, HLN.out])
            have M1 := Lib.hid (show 0 + t ≤ maxLen by unfold maxLen; omega)
            have M2 := Lib.hid (show (0 + t) * 24 ≤ 140737488355328 by omega)
            have M3 := Lib.hid (show 0 + t + 1 ≤ maxLen by unfold maxLen; omega)
            have M4 := Lib.hid (show (0 + t + 1) * 24 ≤ 140737488355328 by omega)
            have M5 := Lib.hid (show 0 + t + 1 + (j - t) ≤ maxLen by unfold maxLen; omega)
            have M6 := Lib.hid (show (0 + t + 1 + (j - t)) * 24 ≤ 140737488355328 by omega)
            have HBiN := Lib.hid hBi; clear hBi
            clear b1 b2 b3 hcd hcd1 hcd2 hspl hlt3
            have hcj : j ≤ cap := HCJ.out
            have htc : t ≤ cap := Nat.le_trans ht hcj
            by_cases hct : cap = t
            · obtain rfl := hct
              obtain rfl : cap = j := by omega
              have FL2b := Lib.hid (show (flat3 (out.drop cap)).length = 0 * 3 by have := FL2.out; omega)
              have M5b := Lib.hid (show 0 + cap + 1 + 0 ≤ maxLen from M3.out)
              have M6b := Lib.hid (show (0 + cap + 1 + 0) * 24 ≤ 140737488355328 from M4.out)
              rw [if_pos rfl] at hAB
              subst hAB
              go_region_law (first
              | (refine step_append_opt rfl (.tmp 67) (.tmp 70) 35 rfl wN.heap.size 44 i0 (.agg #[.int .i64 0, .int .i64 0, .int .i64 0]) 3 24 Try.underlying35 hi hz0 hz1 hz2 rfl (by decide) (.slice (some ⟨wN.heap.size, 0, none⟩) 0 0) 0 _ (by first | (simp [Act.eval]; done) | (unfold Act.put; simp [Act.eval]; done)) OA1.out (some ⟨g, 0, none⟩) cap cap (flat3 (out.take cap)) (by first | (simp [Act.eval]; done) | (unfold Act.put; simp [Act.eval]; done)) (fun h => by cases h) FL1.out CA1.out (flat3_one _) M1.out M2.out NA1.out ?_; intro v5 w5 ho5 hg5; have hb5 := GA1.out _ hg5; have h05 := (hb5.cell (p := ad.add (cap * 3)) hgN).trans h0N)
              | (refine step_append_opt rfl (.tmp 67) (.tmp 70) 35 rfl wN.heap.size 44 i0 (.agg #[.int .i64 0, .int .i64 0, .int .i64 0]) 3 24 Try.underlying35 hi hz0 hz1 hz2 rfl (by decide) (.slice (some ⟨wN.heap.size, 0, none⟩) 0 0) 0 _ (by first | (simp [Act.eval]; done) | (unfold Act.put; simp [Act.eval]; done)) OA2.out (some ⟨g, 0, none⟩) cap cap (flat3 (out.take cap)) (by first | (simp [Act.eval]; done) | (unfold Act.put; simp [Act.eval]; done)) (fun h => by cases h) FL1.out CA2.out (flat3_one _) M1.out M2.out NA2.out ?_; intro v5 w5 ho5 hg5; have hb5 := GA2.out _ hg5; have h05 := (hb5.cell (p := ad.add (cap * 3)) hgN).trans h0N; have hx5 := XA2.out _ hg5)
              | (refine step_append_opt rfl (.tmp 67) (.tmp 70) 35 rfl wN.heap.size 44 i0 (.agg #[.int .i64 0, .int .i64 0, .int .i64 0]) 3 24 Try.underlying35 hi hz0 hz1 hz2 rfl (by decide) (.slice (some ⟨(wN.heap.size + 1), 0, none⟩) 0 0) 0 _ (by first | (simp [Act.eval]; done) | (unfold Act.put; simp [Act.eval]; done)) OA3.out (some ⟨g, 0, none⟩) cap cap (flat3 (out.take cap)) (by first | (simp [Act.eval]; done) | (unfold Act.put; simp [Act.eval]; done)) (fun h => by cases h) FL1.out CA3.out (flat3_one _) M1.out M2.out NA3.out ?_; intro v5 w5 ho5 hg5; have hb5 := GA3.out _ hg5; have h05 := (hb5.cell (p := ad.add (cap * 3)) hgN).trans h0N; have hx5 := XA3.out _ hg5)
              | (refine step_append_opt rfl (.tmp 71) (.tmp 80) 35 rfl wN.heap.size 44 i0 (.agg #[.int .i64 0, .int .i64 0, .int .i64 0]) 3 24 Try.underlying35 hi hz0 hz1 hz2 rfl (by decide) v5 (0 + cap) _ (by first | (simp [Act.eval]; done) | (unfold Act.put; simp [Act.eval]; done)) (ho5.alloc _) (some ⟨w5.heap.size, 0, none⟩) 1 1 [.int .i64 x.1, .int .i64 v, .int .i64 b] (by first | (simp [Act.eval]; done) | (unfold Act.put; simp [Act.eval]; done)) (fun h => by cases h) rfl (fun ad e => by cases e; exact new3 _ _ _ _ _) (flat3_one [(x.1, v, b)]) M3.out M4.out (Nat.le_trans hb5.size (by simp)) ?_; intro v6 w6 ho6 hg6; have hb6 := (hb5.alloc hb5.size _).grown hg6 (Nat.le_trans hb5.size (by simp)) (own_block ho5); clear hb5)
              | (refine step_append_opt rfl (.tmp 71) (.tmp 80) 35 rfl wN.heap.size 44 i0 (.agg #[.int .i64 0, .int .i64 0, .int .i64 0]) 3 24 Try.underlying35 hi hz0 hz1 hz2 rfl (by decide) v5 (0 + cap) _ (by first | (simp [Act.eval]; done) | (unfold Act.put; simp [Act.eval]; done)) ho5 (some ⟨(wN.heap.size + 1), 0, none⟩) 1 1 [.int .i64 x.1, .int .i64 v, .int .i64 b] (by first | (simp [Act.eval]; done) | (unfold Act.put; simp [Act.eval]; done)) (fun h => by cases h) rfl (fun ad e => by cases e; exact hx5) (flat3_one [(x.1, v, b)]) M3.out M4.out hb5.size ?_; intro v6 w6 ho6 hg6; have hb6 := hb5.grown hg6 hb5.size (own_block ho5); clear hb5)
              | (refine step_append_opt rfl (.tmp 71) (.tmp 80) 35 rfl wN.heap.size 44 i0 (.agg #[.int .i64 0, .int .i64 0, .int .i64 0]) 3 24 Try.underlying35 hi hz0 hz1 hz2 rfl (by decide) v5 (0 + cap) _ (by first | (simp [Act.eval]; done) | (unfold Act.put; simp [Act.eval]; done)) ho5 (some ⟨wN.heap.size, 0, none⟩) 1 1 [.int .i64 x.1, .int .i64 v, .int .i64 b] (by first | (simp [Act.eval]; done) | (unfold Act.put; simp [Act.eval]; done)) (fun h => by cases h) rfl (fun ad e => by cases e; exact hx5) (flat3_one [(x.1, v, b)]) M3.out M4.out hb5.size ?_; intro v6 w6 ho6 hg6; have hb6 := hb5.grown hg6 hb5.size (own_block ho5); clear hb5)
              | (refine step_append_opt rfl (.tmp 81) (.tmp 84) 35 rfl wN.heap.size 44 i0 (.agg #[.int .i64 0, .int .i64 0, .int .i64 0]) 3 24 Try.underlying35 hi hz0 hz1 hz2 rfl (by decide) v6 (0 + cap + 1) _ (by first | (simp [Act.eval]; done) | (unfold Act.put; simp [Act.eval]; done)) ho6 (some ⟨g, 0, none⟩) 0 0 (flat3 (out.drop cap)) (by first | (simp [Act.eval]; done) | (unfold Act.put; simp [Act.eval]; done)) (fun h => by cases h) FL2b.out (CB.out _ hb6) (flat3_one _) M5b.out M6b.out hb6.size ?_; intro v7 w7 ho7 hg7; have hb7 := hb6.grown hg7 hb6.size (own_block ho6); clear hb6))
              all_goals
                have HO7 := Lib.hid ho7; clear ho7
                have HB7 := Lib.hid hb7; clear hb7
                clear ho6 hg7 ho5 hg5 hg6
                go_wp2_with fail
                go_roundw
                case rel =>
                  refine ⟨cap + 1, by omega, by go_num, Lib.hid (HES.out (by first | rfl | trivial)), Lib.hid ?_, (HBw.out.trans (HBiN.out.mono HBw.out.size)).trans (HB7.out.mono (HBw.out.trans (HBiN.out.mono HBw.out.size)).size)⟩
                  have ho := HO7.out
                  rw [HTK.out, HSP.out, hI.out]
                  exact ins_close (HBw.out.trans (HBiN.out.mono HBw.out.size)).size ho (by omega)
                case measure => simp [intOf]; omega
            · rw [if_neg hct] at hAB
              subst hAB
              go_region_law (first
              | (refine step_append_opt rfl (.tmp 67) (.tmp 70) 35 rfl wN.heap.size 44 i0 (.agg #[.int .i64 0, .int .i64 0, .int .i64 0]) 3 24 Try.underlying35 hi hz0 hz1 hz2 rfl (by decide) (.slice (some ⟨wN.heap.size, 0, none⟩) 0 0) 0 _ (by first | (simp [Act.eval]; done) | (unfold Act.put; simp [Act.eval]; done)) OA1.out (some ⟨g, 0, none⟩) t cap (flat3 (out.take t)) (by first | (simp [Act.eval]; done) | (unfold Act.put; simp [Act.eval]; done)) (fun h => by cases h) FL1.out CA1.out (flat3_one _) M1.out M2.out NA1.out ?_; intro v5 w5 ho5 hg5; have hb5 := GA1.out _ hg5; have h05 := (hb5.cell (p := ad.add (j * 3)) hgN).trans h0N)
              | (refine step_append_opt rfl (.tmp 67) (.tmp 70) 35 rfl wN.heap.size 44 i0 (.agg #[.int .i64 0, .int .i64 0, .int .i64 0]) 3 24 Try.underlying35 hi hz0 hz1 hz2 rfl (by decide) (.slice (some ⟨wN.heap.size, 0, none⟩) 0 0) 0 _ (by first | (simp [Act.eval]; done) | (unfold Act.put; simp [Act.eval]; done)) OA2.out (some ⟨g, 0, none⟩) t cap (flat3 (out.take t)) (by first | (simp [Act.eval]; done) | (unfold Act.put; simp [Act.eval]; done)) (fun h => by cases h) FL1.out CA2.out (flat3_one _) M1.out M2.out NA2.out ?_; intro v5 w5 ho5 hg5; have hb5 := GA2.out _ hg5; have h05 := (hb5.cell (p := ad.add (j * 3)) hgN).trans h0N; have hx5 := XA2.out _ hg5)
              | (refine step_append_opt rfl (.tmp 67) (.tmp 70) 35 rfl wN.heap.size 44 i0 (.agg #[.int .i64 0, .int .i64 0, .int .i64 0]) 3 24 Try.underlying35 hi hz0 hz1 hz2 rfl (by decide) (.slice (some ⟨(wN.heap.size + 1), 0, none⟩) 0 0) 0 _ (by first | (simp [Act.eval]; done) | (unfold Act.put; simp [Act.eval]; done)) OA3.out (some ⟨g, 0, none⟩) t cap (flat3 (out.take t)) (by first | (simp [Act.eval]; done) | (unfold Act.put; simp [Act.eval]; done)) (fun h => by cases h) FL1.out CA3.out (flat3_one _) M1.out M2.out NA3.out ?_; intro v5 w5 ho5 hg5; have hb5 := GA3.out _ hg5; have h05 := (hb5.cell (p := ad.add (j * 3)) hgN).trans h0N; have hx5 := XA3.out _ hg5)
              | (refine step_append_opt rfl (.tmp 71) (.tmp 80) 35 rfl wN.heap.size 44 i0 (.agg #[.int .i64 0, .int .i64 0, .int .i64 0]) 3 24 Try.underlying35 hi hz0 hz1 hz2 rfl (by decide) v5 (0 + t) _ (by first | (simp [Act.eval]; done) | (unfold Act.put; simp [Act.eval]; done)) (ho5.alloc _) (some ⟨w5.heap.size, 0, none⟩) 1 1 [.int .i64 x.1, .int .i64 v, .int .i64 b] (by first | (simp [Act.eval]; done) | (unfold Act.put; simp [Act.eval]; done)) (fun h => by cases h) rfl (fun ad e => by cases e; exact new3 _ _ _ _ _) (flat3_one [(x.1, v, b)]) M3.out M4.out (Nat.le_trans hb5.size (by simp)) ?_; intro v6 w6 ho6 hg6; have hb6 := (hb5.alloc hb5.size _).grown hg6 (Nat.le_trans hb5.size (by simp)) (own_block ho5); clear hb5)
              | (refine step_append_opt rfl (.tmp 71) (.tmp 80) 35 rfl wN.heap.size 44 i0 (.agg #[.int .i64 0, .int .i64 0, .int .i64 0]) 3 24 Try.underlying35 hi hz0 hz1 hz2 rfl (by decide) v5 (0 + t) _ (by first | (simp [Act.eval]; done) | (unfold Act.put; simp [Act.eval]; done)) ho5 (some ⟨(wN.heap.size + 1), 0, none⟩) 1 1 [.int .i64 x.1, .int .i64 v, .int .i64 b] (by first | (simp [Act.eval]; done) | (unfold Act.put; simp [Act.eval]; done)) (fun h => by cases h) rfl (fun ad e => by cases e; exact hx5) (flat3_one [(x.1, v, b)]) M3.out M4.out hb5.size ?_; intro v6 w6 ho6 hg6; have hb6 := hb5.grown hg6 hb5.size (own_block ho5); clear hb5)
              | (refine step_append_opt rfl (.tmp 71) (.tmp 80) 35 rfl wN.heap.size 44 i0 (.agg #[.int .i64 0, .int .i64 0, .int .i64 0]) 3 24 Try.underlying35 hi hz0 hz1 hz2 rfl (by decide) v5 (0 + t) _ (by first | (simp [Act.eval]; done) | (unfold Act.put; simp [Act.eval]; done)) ho5 (some ⟨wN.heap.size, 0, none⟩) 1 1 [.int .i64 x.1, .int .i64 v, .int .i64 b] (by first | (simp [Act.eval]; done) | (unfold Act.put; simp [Act.eval]; done)) (fun h => by cases h) rfl (fun ad e => by cases e; exact hx5) (flat3_one [(x.1, v, b)]) M3.out M4.out hb5.size ?_; intro v6 w6 ho6 hg6; have hb6 := hb5.grown hg6 hb5.size (own_block ho5); clear hb5)
              | (refine step_append_opt rfl (.tmp 81) (.tmp 84) 35 rfl wN.heap.size 44 i0 (.agg #[.int .i64 0, .int .i64 0, .int .i64 0]) 3 24 Try.underlying35 hi hz0 hz1 hz2 rfl (by decide) v6 (0 + t + 1) _ (by first | (simp [Act.eval]; done) | (unfold Act.put; simp [Act.eval]; done)) ho6 (some ⟨g, t * 3, none⟩) (j - t) (cap - t) (flat3 (out.drop t)) (by first | (simp [Act.eval]; done) | (unfold Act.put; simp [Act.eval]; done)) HAB0.out FL2.out (CB.out _ hb6) (flat3_one _) M5.out M6.out hb6.size ?_; intro v7 w7 ho7 hg7; have hb7 := hb6.grown hg7 hb6.size (own_block ho6); clear hb6))
              all_goals
                have HO7 := Lib.hid ho7; clear ho7
                have HB7 := Lib.hid hb7; clear hb7
                clear ho6 hg7 ho5 hg5 hg6
                go_wp2_with fail
                go_roundw
                case rel =>
                  refine ⟨j + 1, by omega, by go_num, Lib.hid (HES.out (by first | rfl | trivial)), Lib.hid ?_, (HBw.out.trans (HBiN.out.mono HBw.out.size)).trans (HB7.out.mono (HBw.out.trans (HBiN.out.mono HBw.out.size)).size)⟩
                  have ho := HO7.out
                  rw [HTK.out, HSP.out, hI.out]
                  exact ins_close (HBw.out.trans (HBiN.out.mono HBw.out.size)).size ho (by omega)
                case measure => simp [intOf]; omega
      · have hq : (e0 != 0) = true := by simpa using hez
        obtain ⟨hV, hE⟩ := HVe.out e0 (HEN.out hez) hez
        subst hV hE
        clear hez
        go_wp2_with fail
        go_ret2
        exact ⟨none, 0, 0, rfl, rfl, fun j hj => absurd hj (by simp), HBr.out.trans (HB2.out.mono hsz)⟩
    · obtain rfl : j = k := by omega
      have htl : cs.take j = cs := List.take_of_length_le (by rw [HL.out]; exact Nat.le_refl _)
      have hE1 := hE0.out
      have hO1 := hO.out
      rw [htl] at hE1 hO1
      clear htl hE0 hO hlt
      have hR1 := HR.out.below hB (Nat.le_refl _)
      obtain ⟨r, hd⟩ : ∃ r, Plain.dup cs = r := ⟨_, rfl⟩
      have HDb := Lib.hid (double36_any A j c cs wr HL.out (by omega) (hR1.more hB.size) r hd)
      have HBr := Lib.hid hB; clear hB
      cases r
      · obtain ⟨hV, hE⟩ := HVs.out hE1 hd
        have HV := Lib.hid hV; clear hV
        clear hd hE1 hR1
        subst hE
        obtain ⟨hlen, hcase⟩ := own_reads3 hO1
        have HO1 := Lib.hid hO1; clear hO1
        have HLN := Lib.hid hlen; clear hlen
        go_wp2_with fail
        refine HDb.out.mono ?_
        rintro e w5 ⟨rfl, hb5⟩
        rcases hcase with ⟨rfl, rfl⟩ | ⟨g, cap, rfl, hge, hg, hcells⟩
        · have HB5 := Lib.hid hb5; clear hb5
          go_wp2_with fail
          go_ret2
          refine ⟨none, 0, 0, rfl, ?_, ?_, HBr.out.trans (HB5.out.mono HBr.out.size)⟩
          · rw [HV.out]; exact HLN.out
          · intro j hj
            rw [HV.out, HLN.out] at hj
            omega
        · have HG := Lib.hid hcells; clear hcells
          have HB5 := Lib.hid hb5; clear hb5
          go_wp2_with fail
          go_ret2
          refine ⟨some ⟨g, 0, none⟩, j, cap, rfl, ?_, ?_, HBr.out.trans (HB5.out.mono HBr.out.size)⟩
          · rw [HV.out]; exact HLN.out
          · rw [HV.out]
            refine Reads3.mk (Nat.lt_of_lt_of_le hg HB5.out.size) fun i hi => ?_
            obtain ⟨e0, e1, e2⟩ := flat3_get _ i hi
            have ff := fun o u (hu : _ = some u) => (HB5.out.cell (p := ⟨g, o, none⟩) hg).trans (HG.out o u hu).1
            rw [add0, add0, add0]
            exact ⟨ff _ _ e0, ff _ _ e1, ff _ _ e2⟩
      · obtain ⟨hV, hE⟩ := HVd.out hE1 hd
        subst hV hE
        clear hd hE1 hR1 hO1
        go_wp2_with fail
        refine HDb.out.mono ?_
        rintro e w5 ⟨rfl, hb5⟩
        have HB5 := Lib.hid hb5; clear hb5
        go_wp2_with fail
        go_ret2
        exact ⟨none, 0, 0, rfl, rfl, fun j hj => absurd hj (by simp), HBr.out.trans (HB5.out.mono HBr.out.size)⟩
end Go.Proofs.Ytacglimhkpfanaa
