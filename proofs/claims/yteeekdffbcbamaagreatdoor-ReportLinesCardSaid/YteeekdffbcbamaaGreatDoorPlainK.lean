/-
  PLAIN: numbers as text, digit by digit; fields joined one by one.
-/
import Derived.Test.YteeekdffbcbamaaGreatDoorG6
namespace Go.Proofs.YteeekdffbcbamaaGreatDoor
open Go.RowKit
theorem bytes_ext' {a b : ByteArray} (h : a.data.toList = b.data.toList) : a = b := by
  cases a; cases b
  simp only at h
  simpa using congrArg List.toArray h
theorem joinB_one (y : ByteArray) : joinB [y] = y := by
  apply bytes_ext'
  simp [joinB, Lib.join_one]
theorem joinB_snoc (xs : List ByteArray) (y : ByteArray) (h : xs ≠ []) : joinB (xs ++ [y]) = (joinB xs ++ (⟨#[44]⟩ : ByteArray)) ++ y := by
  apply bytes_ext'
  cases xs with
  | nil => exact absurd rfl h
  | cons a r => simp [joinB, Lib.join_cons, Lib.joinTail, ByteArray.data_append]
theorem itoaB_small (n : Nat) (h : n < 10) : itoaB (n : Int) = ⟨#[UInt8.ofNat (48 + n)]⟩ := by
  unfold itoaB
  rw [Lib.itoa_nonneg, Lib.decDigits_one h]
theorem itoaB_step (n : Nat) (h : ¬ n < 10) : itoaB (n : Int) = itoaB ((n / 10 : Nat) : Int) ++ itoaB ((n % 10 : Nat) : Int) := by
  apply bytes_ext'
  rw [ByteArray.data_append]
  unfold itoaB
  rw [Lib.itoa_nonneg, Lib.itoa_nonneg, Lib.itoa_nonneg, Lib.decDigits_one (i := n % 10) (by omega)]
  simp only [Array.toList_append]
  conv => lhs; rw [Lib.decDigits, dif_neg h]
theorem itoaB_neg (n : Nat) (h : 1 ≤ n) : itoaB (-(n : Int)) = (⟨#[45]⟩ : ByteArray) ++ itoaB (n : Int) := by
  apply bytes_ext'
  rw [ByteArray.data_append]
  unfold itoaB
  rw [Lib.itoa_nonneg, Lib.itoa_neg n h]
  simp
end Go.Proofs.YteeekdffbcbamaaGreatDoor
