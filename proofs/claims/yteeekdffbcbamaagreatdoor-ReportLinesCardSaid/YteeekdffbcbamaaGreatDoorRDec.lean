/-
  WALKS: a number as text (the reference's decimal), 1 or 0 for a bool (bit).
-/
import Derived.Test.YteeekdffbcbamaaGreatDoorPlainK
import Derived.Deep.RegionHeld3
import Derived.Laws.Concat
import Derived.Laws.BytesString
import Derived.Deep.WholeRow
namespace Go.Proofs.YteeekdffbcbamaaGreatDoor
open Go.RowKit
theorem rbit_any (b : Bool) (w : World) : Calls Tryz.prog 42 #[.bool b] w fun e w' => e = .returned (.int .i64 (oneI b)) ∧ w = w' := by
  cases b
  · go_enter Tryz.func42, Tryz.ntmps42
    go_wp2_with fail
    go_ret
    exact ⟨rfl, rfl⟩
  · go_enter Tryz.func42, Tryz.ntmps42
    go_wp2_with fail
    go_ret
    exact ⟨rfl, rfl⟩
theorem bytes_one (n : Nat) (w : World) : (convert 49 9 (.slice (some ⟨w.heap.size, 0, none⟩) 1 1)).run Tryz.prog (w.alloc (.cells #[.int .u8 (48 + (n : Int))] 5)) = .ok (.string ⟨#[UInt8.ofNat (48 + n)]⟩) (w.alloc (.cells #[.int .u8 (48 + (n : Int))] 5)) := by
  rw [run_convert_bytes_string _ 49 9 5 _ 1 1 Tryz.underlying49 Tryz.underlying5 Tryz.underlying9]
  rw [run_bytesToString _ _ 1 1 [48 + (n : Int)]]
  · have e : ((48 : Int) + (n : Int)).toNat = 48 + n := by omega
    show Result.ok (Value.string (ByteArray.empty.push (UInt8.ofNat ((48 : Int) + (n : Int)).toNat))) _ = _
    rw [e]
    rfl
  · exact run_loadCellsFrom_new w 5 #[.int .u8 (48 + (n : Int))] 1 rfl
set_option maxRecDepth 100000 in
theorem decimal_one (n : Nat) (w : World) (h : n < 10) : Calls Tryz.prog 41 #[.int .i64 (n : Int)] w fun e w' => e = .returned (.string (itoaB (n : Int))) ∧ Below w.heap.size w w' := by
  rw [itoaB_small n h]
  have h0 : ¬ (n : Int) < 0 := by omega
  have h9 : ¬ (9 : Int) < n := by omega
  have hb := bytes_one n w
  go_enter Tryz.func41, Tryz.ntmps41
  go_wp2_with fail
  go_ret
  exact ⟨rfl, (Below.refl _ _).alloc (Nat.le_refl _) _⟩
set_option maxRecDepth 100000 in
theorem decimal_nat (k : Nat) : ∀ (n : Nat) (w : World), n ≤ k → n ≤ 9223372036854775807 → Calls Tryz.prog 41 #[.int .i64 (n : Int)] w fun e w' => e = .returned (.string (itoaB (n : Int))) ∧ Below w.heap.size w w' := by
  induction k with
  | zero => exact fun n w hk _ => decimal_one n w (by omega)
  | succ k ih =>
    intro n w hk hm
    by_cases h : n < 10
    · exact decimal_one n w h
    · have hs := itoaB_step n h
      have hz1 := itoaB_size ((n / 10 : Nat) : Int) (by omega) (by omega)
      have hz2 := itoaB_size ((n % 10 : Nat) : Int) (by omega) (by omega)
      have HQ := Lib.hid (fun W => ih (n / 10) W (by omega) (by omega))
      have HR := Lib.hid (fun W => decimal_one (n % 10) W (by omega))
      have e1 : (n : Int).tdiv 10 = ((n / 10 : Nat) : Int) := rfl
      have e2 : (n : Int).tmod 10 = ((n % 10 : Nat) : Int) := rfl
      have h0 : ¬ (n : Int) < 0 := by omega
      have h9 : (9 : Int) < n := by omega
      rw [hs]
      clear hs h hk
      obtain ⟨q, hq⟩ : ∃ q, n / 10 = q := ⟨_, rfl⟩
      obtain ⟨r, hr⟩ : ∃ r, n % 10 = r := ⟨_, rfl⟩
      rw [hq] at hz1 HQ e1 ⊢
      rw [hr] at hz2 HR e2 ⊢
      have hqi : (q : Int) ≤ 9223372036854775807 := by omega
      have hri : (r : Int) ≤ 9223372036854775807 := by omega
      clear hq hr
      obtain ⟨x, hx⟩ : ∃ x, itoaB (q : Int) = x := ⟨_, rfl⟩
      obtain ⟨y, hy⟩ : ∃ y, itoaB (r : Int) = y := ⟨_, rfl⟩
      rw [hx] at hz1 HQ ⊢
      rw [hy] at hz2 HR ⊢
      clear hx hy ih
      have S1 : ∀ W, (Op.stringOp .add x y).run Tryz.prog W = .ok (.string (x ++ y)) W := fun W => run_string_add_sum W _ _ (by omega)
      go_enter Tryz.func41, Tryz.ntmps41
      go_wp2_with fail
      refine (HQ.out _).mono ?_
      rintro en w1 ⟨rfl, hb1⟩
      have HB1 := Lib.hid hb1; clear hb1
      go_wp2_with fail
      refine (HR.out _).mono ?_
      rintro en w2 ⟨rfl, hb2⟩
      have HB2 := Lib.hid hb2; clear hb2
      go_wp2_with fail
      go_ret
      exact ⟨rfl, HB1.out.trans (HB2.out.mono HB1.out.size)⟩
set_option maxRecDepth 100000 in
theorem decimal_any (n : Int) (w : World) (h0 : -9223372036854775807 ≤ n) (h1 : n ≤ 9223372036854775807) : Calls Tryz.prog 41 #[.int .i64 n] w fun e w' => e = .returned (.string (itoaB n)) ∧ Below w.heap.size w w' := by
  by_cases hn : n < 0
  · obtain ⟨m, rfl⟩ : ∃ m : Nat, n = -(m : Int) := ⟨n.natAbs, by omega⟩
    have HP := Lib.hid (fun W => decimal_nat m m W (Nat.le_refl _) (by omega))
    have hz := itoaB_size (m : Int) (by omega) (by omega)
    rw [itoaB_neg m (by omega)]
    have hz2 : (⟨#[45]⟩ : ByteArray).size = 1 := rfl
    have S1 : ∀ W, (Op.stringOp .add (⟨#[45]⟩ : ByteArray) (itoaB (m : Int))).run Tryz.prog W = .ok (.string ((⟨#[45]⟩ : ByteArray) ++ itoaB (m : Int))) W := fun W => run_string_add_sum W _ _ (by omega)
    have hm1 : (m : Int) ≤ 9223372036854775807 := by omega
    clear hz hz2
    go_enter Tryz.func41, Tryz.ntmps41
    go_wp2_with fail
    refine (HP.out _).mono ?_
    rintro en w1 ⟨rfl, hb1⟩
    go_wp2_with fail
    go_ret
    exact ⟨rfl, hb1⟩
  · obtain ⟨m, rfl⟩ : ∃ m : Nat, n = (m : Int) := ⟨n.toNat, by omega⟩
    exact decimal_nat m m w (Nat.le_refl _) (by omega)
end Go.Proofs.YteeekdffbcbamaaGreatDoor
