/-
  WALKS: the error of a sentence (the reference's Check).
-/
import Derived.Test.YteeekdffbcbamaaGreatDoorRChkA
namespace Go.Proofs.YteeekdffbcbamaaGreatDoor
open Go.RowKit
section
variable (x : Plain.Sn) (A : Option Addr) (n c : Nat) (w : World)
theorem rcheck_kind (h1 : x.kind ≠ 1) (h2 : x.kind ≠ 2) (h3 : x.kind ≠ 3) : Calls Tryz.prog 22 #[.agg (snCells x (.slice A n c))] w (CheckPost w 3) := by
  unfold snCells
  generalize x.kind = k at *
  by_cases hk : k < 1
  · clear h1 h2 h3
    go_enter Tryz.func22, Tryz.ntmps22
    go_wp2_with fail
    go_ret
    exact ⟨rfl, (Below.refl _ _).alloc (Nat.le_refl _) _⟩
  · have hk3 : 3 < k := by omega
    clear h1 h2 h3
    go_enter Tryz.func22, Tryz.ntmps22
    go_wp2_with fail
    go_ret
    exact ⟨rfl, (Below.refl _ _).alloc (Nat.le_refl _) _⟩
theorem rcheck_time1 (hk : x.kind = 1) (ht : Plain.inR x.time 0 604799999 = false) : Calls Tryz.prog 22 #[.agg (snCells x (.slice A n c))] w (CheckPost w 2) := by
  unfold snCells
  rw [hk]
  clear hk
  have HT := Lib.hid (fun W => rwithin_any x.time 0 604799999 false W ht)
  clear ht
  go_enter Tryz.func22, Tryz.ntmps22
  go_wp2_with fail
  refine (HT.out _).mono ?_
  rintro en w1 ⟨rfl, rfl⟩
  go_wp2_with fail
  go_ret
  exact ⟨rfl, (Below.refl _ _).alloc (Nat.le_refl _) _⟩
theorem rcheck_time2 (hk : x.kind = 2) (ht : Plain.inR x.time 0 604799999 = false) : Calls Tryz.prog 22 #[.agg (snCells x (.slice A n c))] w (CheckPost w 2) := by
  unfold snCells
  rw [hk]
  clear hk
  have HT := Lib.hid (fun W => rwithin_any x.time 0 604799999 false W ht)
  clear ht
  go_enter Tryz.func22, Tryz.ntmps22
  go_wp2_with fail
  refine (HT.out _).mono ?_
  rintro en w1 ⟨rfl, rfl⟩
  go_wp2_with fail
  go_ret
  exact ⟨rfl, (Below.refl _ _).alloc (Nat.le_refl _) _⟩
theorem rcheck_time3 (hk : x.kind = 3) (ht : Plain.inR x.time 0 604799999 = false) : Calls Tryz.prog 22 #[.agg (snCells x (.slice A n c))] w (CheckPost w 2) := by
  unfold snCells
  rw [hk]
  clear hk
  have HT := Lib.hid (fun W => rwithin_any x.time 0 604799999 false W ht)
  clear ht
  go_enter Tryz.func22, Tryz.ntmps22
  go_wp2_with fail
  refine (HT.out _).mono ?_
  rintro en w1 ⟨rfl, rfl⟩
  go_wp2_with fail
  go_ret
  exact ⟨rfl, (Below.refl _ _).alloc (Nat.le_refl _) _⟩
end
end Go.Proofs.YteeekdffbcbamaaGreatDoor
