/-
  WALKS: a number's range; the error of a list of numbers of satellites (the reference's within, prns).
-/
import Derived.Test.YteeekdffbcbamaaGreatDoorG6
import Derived.StillTactics
namespace Go.Proofs.YteeekdffbcbamaaGreatDoor
open Go.RowKit
theorem rwithin_any (n lo hi : Int) (r : Bool) (w : World) (h : Plain.inR n lo hi = r) : Calls Tryz.prog 46 #[.int .i64 lo, .int .i64 hi, .int .i64 n] w fun e w' => e = .returned (.bool r) ∧ w = w' := by
  cases r
  · by_cases h1 : n < lo
    · have h2 : ¬ lo ≤ n := by omega
      clear h
      go_enter Tryz.func46, Tryz.ntmps46
      go_wp2_with fail
      go_ret
      exact ⟨rfl, rfl⟩
    · have h2 : lo ≤ n := by omega
      have h3 : ¬ n ≤ hi := by have := Plain.inR_no h; omega
      have h4 : hi < n := by omega
      clear h h1
      go_enter Tryz.func46, Tryz.ntmps46
      go_wp2_with fail
      go_ret
      exact ⟨rfl, rfl⟩
  · obtain ⟨h1, h2⟩ := Plain.inR_yes h
    clear h
    go_enter Tryz.func46, Tryz.ntmps46
    go_wp2_with fail
    go_ret
    exact ⟨rfl, rfl⟩
set_option maxRecDepth 100000 in
set_option maxHeartbeats 4000000 in
theorem rprns_any (l : List Int) (A : Option Addr) (n c : Nat) (w : World) (hn : l.length = n) (hN : PrL w A l) (hnm : n ≤ 9223372036854775807) :
    Calls Tryz.prog 47 #[.slice A n c] w fun e w' => e = .returned (.int .i64 (if 16 < l.length then 4 else Plain.prnsE 0 l)) ∧ ∃ m, w' = w.drewN m := by
  by_cases h16 : 16 < n
  · rw [hn, if_pos h16]
    have h16i : (16 : Int) < n := by omega
    go_enter Tryz.func47, Tryz.ntmps47
    go_wp2_with fail
    go_ret
    exact ⟨rfl, 0, rfl⟩
  · rw [hn, if_neg h16]
    have h16i : ¬ (16 : Int) < n := by omega
    obtain ⟨R, hR⟩ : ∃ R, Plain.prnsE 0 l = R := ⟨_, rfl⟩
    rw [hR]
    have HRP := Lib.hid (show Plain.prnsE (Plain.lastP l 0) (l.drop 0) = R from hR)
    have HLN := Lib.hid hn
    have HN1 := Lib.hid hN
    clear hR hn hN h16
    go_enter Tryz.func47, Tryz.ntmps47
    go_wp2_with fail
    go_loopw [3] (fun i wr => ∃ k m : Nat, k ≤ n ∧ i = .int .i64 k ∧ Hid (Plain.prnsE (Plain.lastP l k) (l.drop k) = R) ∧ wr = w.drewN m) (fun i _ => n - (intOf i).toNat)
    case atStart => exact ⟨0, 0, Nat.zero_le _, rfl, HRP, rfl⟩
    case round =>
      obtain ⟨k, m, hk, rfl, hP, hw⟩ := hrel
      subst hw
      by_cases hlt : k < n
      · have hkl : k < l.length := by rw [HLN.out]; exact hlt
        obtain ⟨ad, hA, hc⟩ := HN1.out k hkl
        have hst := Plain.prnsE_step hkl
        rw [hP.out] at hst
        have hprev : 0 < k → w.cell? (ad.add (k - 1)) = some (.int .i64 (Plain.lastP l k)) := fun h0 => by
          obtain ⟨ad', hA', hc'⟩ := HN1.out (k - 1) (by omega)
          rw [hA] at hA'
          obtain rfl : ad = ad' := by simpa using hA'
          rw [Plain.lastP_succ h0 (by omega)]
          exact hc'
        subst hA
        have hcm : (w.drewN m).cell? (ad.add k) = some (.int .i64 l[k]) := hc
        clear hc
        obtain ⟨r1, h1⟩ : ∃ r, Plain.inR l[k] 1 63 = r := ⟨_, rfl⟩
        rw [h1] at hst
        have hrange := Plain.inR_yes (n := l[k]) (lo := 1) (hi := 63)
        rw [h1] at hrange
        have H1 := Lib.hid (fun W => rwithin_any _ _ _ _ W h1); clear h1
        have HQ0 := Lib.hid (show k = 0 → Plain.lastP l k = 0 from fun h => by unfold Plain.lastP; rw [if_pos h])
        generalize l[k] = p at *
        generalize Plain.lastP l k = q at *
        have HST := Lib.hid hst; clear hst
        have HPV := Lib.hid hprev; clear hprev
        have HRG := Lib.hid hrange; clear hrange
        have hlt' : (k : Int) < n := by omega
        cases r1
        · obtain rfl : R = 2 := by have := HST.out; simpa using this
          go_wp2_with fail
          refine (H1.out _).mono ?_
          rintro en w2 ⟨rfl, rfl⟩
          go_wp2_with fail
          go_ret
          exact ⟨rfl, m, rfl⟩
        · have HST2 := Lib.hid (show R = if p ≤ q then 9 else Plain.prnsE (Plain.lastP l (k + 1)) (l.drop (k + 1)) by have := HST.out; simpa using this)
          by_cases h0 : 0 < k
          · have hpv : (w.drewN m).cell? (ad.add (k - 1)) = some (.int .i64 q) := HPV.out h0
            have h0i : (0 : Int) < k := by omega
            have hcs : ∀ tp dr os out, World.cell? { heap := w.heap, tape := tp, drawn := dr, os := os, output := out } (ad.add k) = some (.int .i64 p) := fun _ _ _ _ => hcm
            obtain ⟨j, hj⟩ : ∃ j : Nat, k - 1 = j := ⟨_, rfl⟩
            rw [hj] at hpv
            have hps : ∀ tp dr os out, World.cell? { heap := w.heap, tape := tp, drawn := dr, os := os, output := out } (ad.add j) = some (.int .i64 q) := fun _ _ _ _ => hpv
            have hwr : IntKind.i64.wrap ((k : Int) - 1) = (j : Int) := by
              have e : (k : Int) - 1 = j := by omega
              rw [e]
              simp [IntKind.wrap, IntKind.bits, IntKind.signed]
              omega
            have hjn : (j : Int) < n := by omega
            have hjn2 : j < n := by omega
            clear hj
            by_cases hpq : p ≤ q
            · obtain rfl : R = 9 := by rw [HST2.out, if_pos hpq]
              go_wp2_with fail
              refine (H1.out _).mono ?_
              rintro en w2 ⟨rfl, rfl⟩
              go_wp2_with fail
              go_still (by kernel_rfl)
              go_wp2_with fail
              go_ret
              exact ⟨rfl, m + 1, rfl⟩
            · have hpq' : q < p := by omega
              have HST3 := Lib.hid (HST2.out.trans (if_neg hpq))
              clear hpq
              go_wp2_with fail
              refine (H1.out _).mono ?_
              rintro en w2 ⟨rfl, rfl⟩
              go_wp2_with fail
              go_still (by kernel_rfl)
              go_wp2_with fail
              go_roundw
              case rel => exact ⟨k + 1, m + 1, by omega, by go_num, Lib.hid HST3.out.symm, rfl⟩
              case measure => simp [intOf]; omega
          · have hz : k = 0 := by omega
            have HST3 := Lib.hid (HST2.out.trans (if_neg (by have := HQ0.out hz; have := (HRG.out rfl).1; omega)))
            have h0i : ¬ (0 : Int) < k := by omega
            have HZ0 := Lib.hid hz
            clear hz h0
            go_wp2_with fail
            refine (H1.out _).mono ?_
            rintro en w2 ⟨rfl, rfl⟩
            go_wp2_with fail
            have h0d : decide (0 < k) = false := by rw [HZ0.out]; rfl
            clear h0i
            go_quiet (fail)
            go_wp2_with fail
            go_roundw
            case rel => exact ⟨k + 1, _, by omega, by go_num, Lib.hid HST3.out.symm, rfl⟩
            case measure => simp [intOf]; omega
      · obtain rfl : k = n := by omega
        obtain rfl : R = 0 := by
          have := hP.out
          rw [List.drop_of_length_le (by rw [HLN.out]; exact Nat.le_refl _)] at this
          exact this.symm
        clear hP
        go_wp2_with fail
        go_ret
        exact ⟨rfl, m, rfl⟩
end Go.Proofs.YteeekdffbcbamaaGreatDoor
