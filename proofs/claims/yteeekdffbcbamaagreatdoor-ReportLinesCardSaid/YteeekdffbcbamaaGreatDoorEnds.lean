/-
  WALKS: where the fields of a line end (package report).
-/
import Derived.Test.YteeekdffbcbamaaGreatDoorG2
import Derived.Test.YteeekdffbcbamaaGreatDoorG1
namespace Go.Proofs.YteeekdffbcbamaaGreatDoor
open Go.RowKit

theorem hexI_any (c : UInt8) (w : World) (z : Int) (hz : Plain.hexZ c = z) :
    Calls Tryz.prog 52 #[.string ⟨#[48, 49, 50, 51, 52, 53, 54, 55, 56, 57, 65, 66, 67, 68, 69, 70]⟩, .int .u8 c.toNat] w fun e w' => e = .returned (.int .i64 z) ∧ w = w' := by
  have h := indexByte_any ⟨#[48, 49, 50, 51, 52, 53, 54, 55, 56, 57, 65, 66, 67, 68, 69, 70]⟩ (c.toNat : Int) w
  have hc : ((c.toNat : Int)).toNat.toUInt8 = c := by simp
  rw [hc] at h
  have h2 : Lib.indexByte (⟨#[48, 49, 50, 51, 52, 53, 54, 55, 56, 57, 65, 66, 67, 68, 69, 70]⟩ : ByteArray).data.toList c = z := (Plain.hex_index c).trans hz
  rw [h2] at h
  exact h
theorem star_any (s : ByteArray) (w : World) (z : Int) (hz : (if Plain.starN s < s.size then (Plain.starN s : Int) else -1) = z) :
    Calls Tryz.prog 52 #[.string s, .int .u8 42] w fun e w' => e = .returned (.int .i64 z) ∧ w = w' := by
  have h := indexByte_any s 42 w
  have h2 : Lib.indexByte s.data.toList (42 : Int).toNat.toUInt8 = z := by
    rw [show (42 : Int).toNat.toUInt8 = 42 from rfl, Plain.index_upto, Plain.len_size]
    exact hz
  rw [h2] at h
  exact h
theorem dollar_any (s : ByteArray) (w : World) (r : Bool) (hr : decide (s.data.toList.head? = some 36) = r) :
    Calls Tryz.prog 51 #[.string s, .string ⟨#[36]⟩] w fun e w' => e = .returned (.bool r) ∧ w = w' :=
  hasPrefix_any s ⟨#[36]⟩ w r ((Plain.hasPrefix_dollar s).trans hr)

/-- What ends comes to. -/
def EndsPost (w : World) (e : Nat) (er ea : Int) (en : Ending) (w' : World) : Prop :=
  en = .returned (.tuple #[.int .i64 e, .agg #[.int .i64 er, .int .i64 ea]]) ∧ Below w.heap.size w w'

theorem ends_long (s : ByteArray) (w : World) (h : 500 < s.size) :
    Calls Tryz.prog 30 #[.string s] w (EndsPost w 0 4 500) := by
  go_enter Tryz.func30, Tryz.ntmps30
  go_wp2_with fail
  exact bodyPost_ret (v := .tuple #[.int .i64 0, .agg #[.int .i64 4, .int .i64 500]]) (by simp [results, Tryz.results30, go_sem]) rfl ⟨rfl, (Below.refl _ _).alloc (Nat.le_refl _) _⟩
theorem ends_no (s : ByteArray) (w : World) (h : s.size ≤ 500) (hd : s.data.toList.head? ≠ some 36) :
    Calls Tryz.prog 30 #[.string s] w (EndsPost w 0 11 0) := by
  have HD := Lib.hid (fun W => dollar_any s W false (decide_eq_false hd))
  clear hd
  go_enter Tryz.func30, Tryz.ntmps30
  go_wp2_with fail
  refine (HD.out _).mono ?_
  rintro en w1 ⟨rfl, rfl⟩
  go_wp2_with fail
  exact bodyPost_ret (v := .tuple #[.int .i64 0, .agg #[.int .i64 11, .int .i64 0]]) (by simp [results, Tryz.results30, go_sem]) rfl ⟨rfl, (Below.refl _ _).alloc (Nat.le_refl _) _⟩
theorem ends_nostar (s : ByteArray) (w : World) (h : s.size ≤ 500) (hd : s.data.toList.head? = some 36) (hst : Plain.starN s = s.size) :
    Calls Tryz.prog 30 #[.string s] w (EndsPost w 0 11 s.size) := by
  have HD := Lib.hid (fun W => dollar_any s W true (decide_eq_true hd))
  have HS := Lib.hid (fun W => star_any s W (-1) (by rw [if_neg (by omega)]))
  clear hd hst
  go_enter Tryz.func30, Tryz.ntmps30
  go_wp2_with fail
  refine (HD.out _).mono ?_
  rintro en w1 ⟨rfl, rfl⟩
  go_wp2_with fail
  refine (HS.out _).mono ?_
  rintro en w1 ⟨rfl, rfl⟩
  go_wp2_with fail
  exact bodyPost_ret (v := .tuple #[.int .i64 0, .agg #[.int .i64 11, .int .i64 s.size]]) (by simp [results, Tryz.results30, go_sem]) rfl ⟨rfl, (Below.refl _ _).alloc (Nat.le_refl _) _⟩
section
variable (s : ByteArray) (w : World) (h : s.size ≤ 500) (hd : s.data.toList.head? = some 36) (e : Nat) (he : Plain.starN s = e) (hlt : e < s.size)
include h hd he hlt
theorem ends_d1 (hx : Plain.hexAt s (e + 1) < 0) :
    Calls Tryz.prog 30 #[.string s] w (EndsPost w 0 11 (e + 1 : Nat)) := by
  have HD := Lib.hid (fun W => dollar_any s W true (decide_eq_true hd))
  have HS := Lib.hid (fun W => star_any s W e (by rw [he, if_pos hlt]))
  clear hd he
  by_cases h1 : e + 1 < s.size
  · have HX := Lib.hid (fun W => hexI_any s[e + 1] W _ rfl)
    rw [Plain.hexAt_get h1] at hx
    have hc := s[e + 1].toNat_lt
    generalize Plain.hexZ s[e + 1] = z at hx HX
    go_enter Tryz.func30, Tryz.ntmps30
    go_wp2_with fail
    refine (HD.out _).mono ?_
    rintro en w1 ⟨rfl, rfl⟩
    go_wp2_with fail
    refine (HS.out _).mono ?_
    rintro en w1 ⟨rfl, rfl⟩
    go_wp2_with fail
    go_loop [5, 6] (fun m i => m = .int .i64 0 ∧ i = .int .i64 ((e : Int) + 1)) (fun _ _ => 0)
    case atStart => exact ⟨rfl, rfl⟩
    case round =>
      obtain ⟨rfl, rfl⟩ := hrel
      go_wp2_with fail
      refine (HX.out _).mono ?_
      rintro en w1 ⟨rfl, rfl⟩
      go_wp2_with fail
      exact bodyPost_ret (v := .tuple #[.int .i64 0, .agg #[.int .i64 11, .int .i64 ((e : Int) + 1)]]) (by simp [results, Tryz.results30, go_sem]) rfl ⟨rfl, (Below.refl _ _).alloc (Nat.le_refl _) _⟩
  · clear hx
    go_enter Tryz.func30, Tryz.ntmps30
    go_wp2_with fail
    refine (HD.out _).mono ?_
    rintro en w1 ⟨rfl, rfl⟩
    go_wp2_with fail
    refine (HS.out _).mono ?_
    rintro en w1 ⟨rfl, rfl⟩
    go_wp2_with fail
    go_loop [5, 6] (fun m i => m = .int .i64 0 ∧ i = .int .i64 ((e : Int) + 1)) (fun _ _ => 0)
    case atStart => exact ⟨rfl, rfl⟩
    case round =>
      obtain ⟨rfl, rfl⟩ := hrel
      go_wp2_with fail
      exact bodyPost_ret (v := .tuple #[.int .i64 0, .agg #[.int .i64 11, .int .i64 ((e : Int) + 1)]]) (by simp [results, Tryz.results30, go_sem]) rfl ⟨rfl, (Below.refl _ _).alloc (Nat.le_refl _) _⟩
end
end Go.Proofs.YteeekdffbcbamaaGreatDoor
