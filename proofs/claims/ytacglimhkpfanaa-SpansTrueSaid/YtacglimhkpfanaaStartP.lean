/-
  WALK: Start of package spans.
-/
import Derived.Test.YtacglimhkpfanaaStartW
import Derived.BigQuiet
import Derived.Deep.QuietTactic
import Derived.Outline
namespace Go.Proofs.Ytacglimhkpfanaa
open Go.RowKit

theorem cB_ok {c : Plain.Tri} (h : Plain.cB c = true) : 1 ≤ c.1 ∧ c.1 ≤ 2048 ∧ 0 ≤ c.2.1 ∧ c.2.1 ≤ 1099511627776 ∧ 0 ≤ c.2.2 ∧ c.2.2 < 604800000 := by
  simp [Plain.cB, Plain.chB] at h
  omega
theorem all_mem {cs : List Plain.Tri} (h : cs.all Plain.cB = true) : ∀ c ∈ cs, Plain.cB c = true := by simpa using h
theorem low_snoc (l r : Int) (cs : List Plain.Tri) (j : Nat) (hj : j < cs.length) : (cs.take (j + 1)).foldl (Plain.low l) r = Plain.low l ((cs.take j).foldl (Plain.low l) r) cs[j] := by
  rw [List.take_succ_eq_append_getElem hj, List.foldl_append]
  rfl
theorem low_bd (l : Int) (hl : 1 ≤ l) (cs : List Plain.Tri) (h : cs.all Plain.cB = true) (j : Nat) : -604800000 ≤ (cs.take j).foldl (Plain.low l) (-604800000) ∧ (cs.take j).foldl (Plain.low l) (-604800000) < 604800000 :=
  Plain.startV_bd l hl (cs.take j) (by rw [List.all_eq_true] at h ⊢; exact fun x hx => h x (List.mem_of_mem_take hx)) _ (by omega) (by omega)

set_option maxHeartbeats 2000000 in
theorem start21_loop (l : Int) (ad : Addr) (k c : Nat) (cs : List Plain.Tri) (w : World) (hsp : ad.spot = none) (hl : cs.length = k) (hk0 : 1 ≤ k) (hk : k ≤ 16) (hr : Reads3 w w.heap.size (some ad) cs) (hb : ad.block < w.heap.size)
    (hp : Plain.perB l = true) (ha : cs.all Plain.cB = true) (hd : Plain.dup cs = false) (m : Int) (hm : cs.foldl (Plain.low l) (-604800000) = m) :
    Calls Try.prog 21 #[.int .i64 l, .slice (some ad) k c] w fun e w' => e = .returned (.tuple #[.int .i64 m, .int .i64 0]) ∧ Below w.heap.size w w' := by
  have hpl : 1 ≤ l ∧ l ≤ 8192 := by simpa [Plain.perB] using hp
  obtain ⟨hl1, hl2⟩ := hpl
  have HP := Lib.hid (fun W => by have := period_any l W; rw [hp] at this; exact this)
  have HC := Lib.hid (contains_any ad k c cs w hsp hl (by omega) hr hb true ha)
  have HD := Lib.hid (fun W hr => double33_any (some ad) k c cs W hl (by omega) hr (fun x hx => by have := cB_ok (all_mem ha x hx); omega) false hd)
  have HLB := Lib.hid (low_bd l hl1 cs ha)
  have HM := Lib.hid hm; clear hm
  have HA := Lib.hid (all_mem ha); clear ha
  have HL := Lib.hid hl; clear hl
  have HR := Lib.hid hr; clear hr
  clear hp hd hsp
  have hk0' : ((k : Int) == 0) = false := beq_eq_false_iff_ne.2 (by omega)
  go_enter Try.func21, Try.ntmps21
  go_wp2_with fail
  refine (HP.out _).mono ?_
  rintro e w1 ⟨rfl, rfl⟩
  go_wp2_with fail
  refine HC.out.mono ?_
  rintro e w1 ⟨rfl, hb1⟩
  have HB1 := Lib.hid hb1; clear hb1
  go_wp2_with fail
  refine (HD.out _ ((HR.out.below HB1.out (Nat.le_refl _)).more HB1.out.size)).mono ?_
  rintro e w2 ⟨rfl, hb2⟩
  have hB0 := HB1.out.trans (hb2.mono HB1.out.size)
  clear hb2
  go_wp2_with fail
  go_loopw [6, 28] (fun v i wr => ∃ (j : Nat) (r : Int), j ≤ k ∧ i = .int .i64 j ∧ v = .int .i64 r ∧ -604800000 ≤ r ∧ r < 604800000 ∧ Hid ((cs.take j).foldl (Plain.low l) (-604800000) = r) ∧ Below w.heap.size w wr) (fun _ i _ => k - (intOf i).toNat)
  case atStart => exact ⟨0, -604800000, Nat.zero_le _, rfl, rfl, by omega, by omega, Lib.hid rfl, hB0⟩
  case round =>
    obtain ⟨j, r, hj, rfl, rfl, hr1, hr2, hF, hB⟩ := hrel
    by_cases hlt : j < k
    · have hjl : j < cs.length := by rw [HL.out]; exact hlt
      obtain ⟨_, hA, hab, h0, h1, h2⟩ := (HR.out.below hB (Nat.le_refl _)) j hjl
      cases hA
      have hx := cB_ok (HA.out cs[j] (List.getElem_mem hjl))
      have hsn := low_snoc l (-604800000) cs j hjl
      rw [hF.out] at hsn
      have hbd := HLB.out (j + 1)
      obtain ⟨x, hxe⟩ : ∃ x, cs[j] = x := ⟨_, rfl⟩
      rw [hxe] at h0 h1 h2 hx hsn
      clear hxe
      obtain ⟨p, a, ms⟩ := x
      simp only at h0 h1 h2 hx
      obtain ⟨x1, x2, x3, x4, x5, x6⟩ := hx
      rw [hsn] at hbd
      have HS := Lib.hid hsn; clear hsn
      have hq1 : 0 ≤ a / l := Int.ediv_nonneg (by omega) (by omega)
      have hq2 : a / l ≤ 1099511627776 := by
        have := Int.ediv_le_self l x3
        omega
      have HBD := Lib.hid hbd; clear hbd
      have HB := Lib.hid hB; clear hB
      go_wp2_with fail
      go_quiet (fail)
      go_wp2_with fail
      go_roundw
      case rel => exact ⟨j + 1, max r (ms - a / l), by omega, by go_num, rfl, HBD.out.1, HBD.out.2, Lib.hid HS.out, below_drewN (HB.out.alloc HB.out.size _) _⟩
      case measure => simp [intOf]; omega
    · obtain rfl : j = k := by omega
      have hm2 : r = m := by
        have := hF.out
        rw [List.take_of_length_le (by rw [HL.out]; exact Nat.le_refl _), HM.out] at this
        exact this.symm
      subst hm2
      go_wp2_with fail
      go_ret2
      exact ⟨rfl, hB⟩

theorem start21_any (l : Int) (ad : Addr) (k c : Nat) (cs : List Plain.Tri) (w : World) (hsp : ad.spot = none) (hl : cs.length = k) (hk : k ≤ 1000000) (hr : Reads3 w w.heap.size (some ad) cs) (hb : ad.block < w.heap.size)
    (m E : Int) (hm : Plain.startV l cs = m) (hE : Plain.startE l cs = E) :
    Calls Try.prog 21 #[.int .i64 l, .slice (some ad) k c] w fun e w' => e = .returned (.tuple #[.int .i64 m, .int .i64 E]) ∧ Below w.heap.size w w' := by
  cases hp : Plain.perB l
  · have e1 : Plain.startE l cs = 2 := by unfold Plain.startE; rw [hp]; rfl
    have e2 : Plain.startV l cs = 0 := by unfold Plain.startV; rw [e1]; rfl
    rw [e1] at hE
    rw [e2] at hm
    subst hE hm
    have HP := Lib.hid (fun W => by have := period_any l W; rw [hp] at this; exact this)
    clear hp e1 e2
    go_enter Try.func21, Try.ntmps21
    go_wp2_with fail
    refine (HP.out _).mono ?_
    rintro e w1 ⟨rfl, rfl⟩
    go_wp2_with fail
    go_ret2
    exact ⟨rfl, Below.refl _ _⟩
  · have HP := Lib.hid (fun W => by have := period_any l W; rw [hp] at this; exact this)
    cases ha : cs.all Plain.cB
    · have e1 : Plain.startE l cs = 2 := by unfold Plain.startE; rw [ha]; simp
      have e2 : Plain.startV l cs = 0 := by unfold Plain.startV; rw [e1]; rfl
      rw [e1] at hE
      rw [e2] at hm
      subst hE hm
      have HC := Lib.hid (contains_any ad k c cs w hsp hl hk hr hb false ha)
      clear hp e1 e2 ha hr hl
      go_enter Try.func21, Try.ntmps21
      go_wp2_with fail
      refine (HP.out _).mono ?_
      rintro e w1 ⟨rfl, rfl⟩
      go_wp2_with fail
      refine HC.out.mono ?_
      rintro e w1 ⟨rfl, hb1⟩
      go_wp2_with fail
      go_ret2
      exact ⟨rfl, hb1⟩
    · have HC := Lib.hid (contains_any ad k c cs w hsp hl hk hr hb true ha)
      by_cases hk0 : cs.length = 0 ∨ 16 < cs.length
      · have e1 : Plain.startE l cs = 4 := by unfold Plain.startE; rw [hp, ha, if_pos hk0]; rfl
        have e2 : Plain.startV l cs = 0 := by unfold Plain.startV; rw [e1]; rfl
        rw [e1] at hE
        rw [e2] at hm
        subst hE hm
        rw [hl] at hk0
        clear hp e1 e2 ha hr hl
        rcases hk0 with rfl | hk0
        · go_enter Try.func21, Try.ntmps21
          go_wp2_with fail
          refine (HP.out _).mono ?_
          rintro e w1 ⟨rfl, rfl⟩
          go_wp2_with fail
          refine HC.out.mono ?_
          rintro e w1 ⟨rfl, hb1⟩
          go_wp2_with fail
          go_ret2
          exact ⟨rfl, hb1⟩
        · have hk0' : ((k : Int) == 0) = false := beq_eq_false_iff_ne.2 (by omega)
          go_enter Try.func21, Try.ntmps21
          go_wp2_with fail
          refine (HP.out _).mono ?_
          rintro e w1 ⟨rfl, rfl⟩
          go_wp2_with fail
          refine HC.out.mono ?_
          rintro e w1 ⟨rfl, hb1⟩
          go_wp2_with fail
          go_ret2
          exact ⟨rfl, hb1⟩
      · cases hd : Plain.dup cs
        · have e1 : Plain.startE l cs = 0 := by unfold Plain.startE; rw [hp, ha, if_neg hk0, hd]; rfl
          have e2 : Plain.startV l cs = cs.foldl (Plain.low l) (-604800000) := by unfold Plain.startV; rw [if_pos e1]
          rw [e1] at hE
          rw [e2] at hm
          subst hE
          exact start21_loop l ad k c cs w hsp hl (by omega) (by omega) hr hb hp ha hd m hm
        · have e1 : Plain.startE l cs = 8 := by unfold Plain.startE; rw [hp, ha, if_neg hk0, hd]; rfl
          have e2 : Plain.startV l cs = 0 := by unfold Plain.startV; rw [e1]; rfl
          rw [e1] at hE
          rw [e2] at hm
          subst hE hm
          have HD := Lib.hid (fun W hr => double33_any (some ad) k c cs W hl hk hr (fun x hx => by have := cB_ok (all_mem ha x hx); omega) true hd)
          have HR := Lib.hid hr; clear hr
          rw [hl] at hk0
          have hk1 : 1 ≤ k := by omega
          have hk2 : k ≤ 16 := by omega
          have hk0' : ((k : Int) == 0) = false := beq_eq_false_iff_ne.2 (by omega)
          clear hp e1 e2 ha hl hk0 hd
          go_enter Try.func21, Try.ntmps21
          go_wp2_with fail
          refine (HP.out _).mono ?_
          rintro e w1 ⟨rfl, rfl⟩
          go_wp2_with fail
          refine HC.out.mono ?_
          rintro e w1 ⟨rfl, hb1⟩
          have HB1 := Lib.hid hb1; clear hb1
          go_wp2_with fail
          refine (HD.out _ ((HR.out.below HB1.out (Nat.le_refl _)).more HB1.out.size)).mono ?_
          rintro e w2 ⟨rfl, hb2⟩
          go_wp2_with fail
          go_ret2
          exact ⟨rfl, HB1.out.trans (hb2.mono HB1.out.size)⟩
end Go.Proofs.Ytacglimhkpfanaa
