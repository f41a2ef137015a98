/-
  WALK: Start of the reference.
-/
import Derived.Test.YtacglimhkpfanaaStartP
import Derived.Test.YtacglimhkpfanaaLenR
namespace Go.Proofs.Ytacglimhkpfanaa
open Go.RowKit

theorem all_first {cs : List Plain.Tri} {j : Nat} (hj : j < cs.length) (h : Plain.cB cs[j] = false) : cs.all Plain.cB = false := by
  cases ha : cs.all Plain.cB
  · rfl
  · have := all_mem ha cs[j] (List.getElem_mem hj)
    rw [this] at h
    cases h
theorem all_last {cs : List Plain.Tri} (h : ∀ i (hi : i < cs.length), Plain.cB cs[i] = true) : cs.all Plain.cB = true := by
  rw [List.all_eq_true]
  intro x hx
  obtain ⟨i, hi, rfl⟩ := List.getElem_of_mem hx
  exact h i hi

set_option maxHeartbeats 4000000 in
theorem start22_any (l : Int) (A : Option Addr) (k c : Nat) (cs : List Plain.Tri) (w : World) (hl : cs.length = k) (hk : k ≤ 1000000) (hr : Reads3 w w.heap.size A cs)
    (m E : Int) (hm : Plain.startV l cs = m) (hE : Plain.startE l cs = E) :
    Calls Try.prog 22 #[.int .i64 l, .slice A k c] w fun e w' => e = .returned (.tuple #[.int .i64 m, .int .i64 E]) ∧ Below w.heap.size w w' := by
  cases hp : Plain.perB l
  · have e1 : Plain.startE l cs = 2 := by unfold Plain.startE; rw [hp]; rfl
    have e2 : Plain.startV l cs = 0 := by unfold Plain.startV; rw [e1]; rfl
    rw [e1] at hE
    rw [e2] at hm
    subst hE hm
    have HP := Lib.hid (fun W => samples_is l false hp W)
    clear hp e1 e2
    go_enter Try.func22, Try.ntmps22
    go_wp2_with fail
    refine (HP.out _).mono ?_
    rintro e w1 ⟨rfl, rfl⟩
    go_wp2_with fail
    go_ret2
    exact ⟨rfl, Below.refl _ _⟩
  · have hpl : 1 ≤ l ∧ l ≤ 8192 := by simpa [Plain.perB] using hp
    obtain ⟨hl1, hl2⟩ := hpl
    have HP := Lib.hid (fun W => samples_is l true hp W)
    have HC0 := Lib.hid (fun (x : Plain.Tri) (h : Plain.cB x = false) W => rchannel_no x.1 x.2.1 x.2.2 h W)
    have HC1 := Lib.hid (fun (x : Plain.Tri) (h : Plain.cB x = true) W => rchannel_yes x.1 x.2.1 x.2.2 h W)
    have HBad := Lib.hid (show cs.all Plain.cB = false → m = 0 ∧ E = 2 from fun ha => by
      have e1 : Plain.startE l cs = 2 := by unfold Plain.startE; rw [ha]; simp
      have e2 : Plain.startV l cs = 0 := by unfold Plain.startV; rw [e1]; rfl
      exact ⟨hm.symm.trans e2, hE.symm.trans e1⟩)
    have HLong := Lib.hid (show cs.all Plain.cB = true → (k = 0 ∨ 16 < k) → m = 0 ∧ E = 4 from fun ha hk0 => by
      have e1 : Plain.startE l cs = 4 := by unfold Plain.startE; rw [hp, ha, if_pos (show cs.length = 0 ∨ 16 < cs.length by rw [hl]; exact hk0)]; rfl
      have e2 : Plain.startV l cs = 0 := by unfold Plain.startV; rw [e1]; rfl
      exact ⟨hm.symm.trans e2, hE.symm.trans e1⟩)
    have HDup := Lib.hid (show cs.all Plain.cB = true → ¬ (k = 0 ∨ 16 < k) → Plain.dup cs = true → m = 0 ∧ E = 8 from fun ha hk0 hd => by
      have e1 : Plain.startE l cs = 8 := by unfold Plain.startE; rw [hp, ha, if_neg (show ¬ (cs.length = 0 ∨ 16 < cs.length) by rw [hl]; exact hk0), hd]; rfl
      have e2 : Plain.startV l cs = 0 := by unfold Plain.startV; rw [e1]; rfl
      exact ⟨hm.symm.trans e2, hE.symm.trans e1⟩)
    have HGood := Lib.hid (show cs.all Plain.cB = true → ¬ (k = 0 ∨ 16 < k) → Plain.dup cs = false → m = cs.foldl (Plain.low l) (-604800000) ∧ E = 0 from fun ha hk0 hd => by
      have e1 : Plain.startE l cs = 0 := by unfold Plain.startE; rw [hp, ha, if_neg (show ¬ (cs.length = 0 ∨ 16 < cs.length) by rw [hl]; exact hk0), hd]; rfl
      have e2 : Plain.startV l cs = cs.foldl (Plain.low l) (-604800000) := by unfold Plain.startV; rw [if_pos e1]
      exact ⟨hm.symm.trans e2, hE.symm.trans e1⟩)
    have HD := Lib.hid (fun W r hd hr => double36_any A k c cs W hl hk hr r hd)
    have HL := Lib.hid hl; clear hl
    have HR := Lib.hid hr; clear hr
    clear hm hE hp
    go_enter Try.func22, Try.ntmps22
    go_wp2_with fail
    refine (HP.out _).mono ?_
    rintro e w1 ⟨rfl, rfl⟩
    go_wp2_with fail
    go_loopw [6] (fun i wr => ∃ j : Nat, j ≤ k ∧ i = .int .i64 j ∧ Hid (∀ i (_ : i < cs.length), i < j → Plain.cB cs[i] = true) ∧ Below w.heap.size w wr) (fun i _ => k - (intOf i).toNat)
    case atStart => exact ⟨0, Nat.zero_le _, rfl, Lib.hid (fun i h1 h2 => by omega), Below.refl _ _⟩
    case round =>
      obtain ⟨j, hj, rfl, hI, hB⟩ := hrel
      by_cases hlt : j < k
      · have hjl : j < cs.length := by rw [HL.out]; exact hlt
        obtain ⟨ad, hA, hab, h0, h1, h2⟩ := (HR.out.below hB (Nat.le_refl _)) j hjl
        subst hA
        have HB := Lib.hid hB; clear hB
        cases hc : Plain.cB cs[j]
        · obtain ⟨hm, hE⟩ := HBad.out (all_first hjl hc)
          subst hm hE
          have HCx := Lib.hid (HC0.out _ hc)
          clear hc
          obtain ⟨x, hx⟩ : ∃ x, cs[j] = x := ⟨_, rfl⟩
          rw [hx] at h0 h1 h2 HCx
          clear hx
          go_wp2_with fail
          refine (HCx.out _).mono ?_
          rintro e w1 ⟨rfl, rfl⟩
          go_wp2_with fail
          go_ret2
          exact ⟨rfl, HB.out.alloc HB.out.size _⟩
        · have HCx := Lib.hid (HC1.out _ hc)
          have HI2 := Lib.hid (show ∀ i (_ : i < cs.length), i < j + 1 → Plain.cB cs[i] = true from fun i h1 h2 => by
            by_cases hi : i < j
            · exact hI.out i h1 hi
            · obtain rfl : i = j := by omega
              exact hc)
          clear hc
          obtain ⟨x, hx⟩ : ∃ x, cs[j] = x := ⟨_, rfl⟩
          rw [hx] at h0 h1 h2 HCx
          clear hx
          go_wp2_with fail
          refine (HCx.out _).mono ?_
          rintro e w1 ⟨rfl, rfl⟩
          go_wp2_with fail
          go_roundw
          case rel => exact ⟨j + 1, by omega, by go_num, HI2, HB.out.alloc HB.out.size _⟩
          case measure => simp [intOf]; omega
      · obtain rfl : j = k := by omega
        have ha := all_last (fun i hi => hI.out i hi (by have := HL.out; omega))
        clear hI hlt
        have HB := Lib.hid hB; clear hB
        by_cases hk0 : j = 0 ∨ 16 < j
        · obtain ⟨hm, hE⟩ := HLong.out ha hk0
          subst hm hE
          clear ha
          rcases hk0 with h0 | h0
          · have hq : ((j : Int) == 0) = true := by simp [h0]
            have H0 := Lib.hid h0; clear h0
            go_wp2_with fail
            go_ret2
            exact ⟨rfl, HB.out⟩
          · have hq : ((j : Int) == 0) = false := beq_eq_false_iff_ne.2 (by omega)
            go_wp2_with fail
            go_ret2
            exact ⟨rfl, HB.out⟩
        · have hk1 : 1 ≤ j := by omega
          have hk2 : j ≤ 16 := by omega
          have hq : ((j : Int) == 0) = false := beq_eq_false_iff_ne.2 (by omega)
          cases hd : Plain.dup cs
          · obtain ⟨hm, hE⟩ := HGood.out ha hk0 hd
            have HDx := Lib.hid (HD.out wr false hd ((HR.out.below HB.out (Nat.le_refl _)).more HB.out.size))
            have HM := Lib.hid hm; clear hm
            subst hE
            have HLB := Lib.hid (low_bd l hl1 cs ha)
            have HA := Lib.hid (all_mem ha)
            clear ha hk0 hd
            go_wp2_with fail
            refine HDx.out.mono ?_
            rintro e w2 ⟨rfl, hb2⟩
            have hB0 := HB.out.trans (hb2.mono HB.out.size)
            clear hb2
            go_wp2_with fail
            go_loopw [8, 9] (fun v i wr => ∃ (t : Nat) (r : Int), t ≤ j ∧ i = .int .i64 t ∧ v = .int .i64 r ∧ -604800000 ≤ r ∧ r < 604800000 ∧ Hid ((cs.take t).foldl (Plain.low l) (-604800000) = r) ∧ Below w.heap.size w wr) (fun _ i _ => j - (intOf i).toNat)
            case atStart => exact ⟨0, -604800000, Nat.zero_le _, rfl, rfl, by omega, by omega, Lib.hid rfl, hB0⟩
            case round =>
              obtain ⟨t, r, ht, rfl, rfl, hr1, hr2, hF, hB⟩ := hrel
              by_cases hlt : t < j
              · have hjl : t < cs.length := by rw [HL.out]; exact hlt
                obtain ⟨ad, hA, hab, h0, h1, h2⟩ := (HR.out.below hB (Nat.le_refl _)) t hjl
                subst hA
                have hx := cB_ok (HA.out cs[t] (List.getElem_mem hjl))
                have hsn := low_snoc l (-604800000) cs t hjl
                rw [hF.out] at hsn
                have hbd := HLB.out (t + 1)
                obtain ⟨x, hxe⟩ : ∃ x, cs[t] = x := ⟨_, rfl⟩
                rw [hxe] at h0 h1 h2 hx hsn
                clear hxe
                obtain ⟨p, a, ms⟩ := x
                simp only at h0 h1 h2 hx
                obtain ⟨x1, x2, x3, x4, x5, x6⟩ := hx
                rw [hsn] at hbd
                have HS := Lib.hid hsn; clear hsn
                have hq1 : 0 ≤ a / l := Int.ediv_nonneg (by omega) (by omega)
                have hq2 : a / l ≤ 1099511627776 := by
                  have := Int.ediv_le_self l x3
                  omega
                have HBD := Lib.hid hbd; clear hbd
                have HB2 := Lib.hid hB; clear hB
                go_wp2_with fail
                go_quiet (fail)
                go_wp2_with fail
                go_roundw
                case rel => exact ⟨t + 1, max r (ms - a / l), by omega, by go_num, rfl, HBD.out.1, HBD.out.2, Lib.hid HS.out, below_drewN HB2.out _⟩
                case measure => simp [intOf]; omega
              · obtain rfl : t = j := by omega
                have hm2 : r = m := by
                  have := hF.out
                  rw [List.take_of_length_le (by rw [HL.out]; exact Nat.le_refl _)] at this
                  rw [HM.out, this]
                subst hm2
                go_wp2_with fail
                go_ret2
                exact ⟨rfl, hB⟩
          · obtain ⟨hm, hE⟩ := HDup.out ha hk0 hd
            subst hm hE
            have HDx := Lib.hid (HD.out wr true hd ((HR.out.below HB.out (Nat.le_refl _)).more HB.out.size))
            clear ha hk0 hd
            go_wp2_with fail
            refine HDx.out.mono ?_
            rintro e w2 ⟨rfl, hb2⟩
            go_wp2_with fail
            go_ret2
            exact ⟨rfl, HB.out.trans (hb2.mono HB.out.size)⟩
end Go.Proofs.Ytacglimhkpfanaa
