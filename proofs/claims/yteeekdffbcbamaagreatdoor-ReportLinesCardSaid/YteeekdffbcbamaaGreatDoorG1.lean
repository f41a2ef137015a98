/-
  LIBRARY CONTRACTS laid for this seat: strings.IndexByte; strings.Cut at a separator of one byte.
-/
import Derived.Test.YteeekdffbcbamaaGreatDoorProg
import Derived.Shelf.Small.Strs
import Derived.Shelf.Strings.Search2
import Derived.Ground.NamesProg
import Derived.WalkKit
import Derived.Below
import Derived.Lib.Hide
import Derived.BigQuiet
import Derived.Deep.QuietTactic
import Derived.Outline
import Derived.Laws.BitsAllLaws
import Derived.Lib.AtoiAll
import Derived.Lib.SlTrimSet
import Derived.Shelf.Strings.Prefix
import Derived.Shelf.Strings.SlTrimAscii
import Derived.Shelf.Strconv.AtoiAll
import Derived.Shelf.Strconv.Itoa3
import Derived.Shelf.Strings.OnBuilder
import Derived.Lib.AppendIntMem
import Derived.Lib.ItoaLen
namespace Go.Proofs.YteeekdffbcbamaaGreatDoor
open Go.Shelf Go.RowKit Go.Lib
def Tryz.l137_ren : Go.Shelf.Ren := ⟨fun | 137 => 52 | 217 => 67 | 266 => 81 | n => n, fun | 9 => 9 | 5 => 5 | 3 => 3 | n => n, fun | n => n⟩
theorem Tryz.l137 : Go.Proofs.Lays.n137 Tryz.prog Tryz.l137_ren := {
  mixed := by kernel_rfl
  f137 := Tryz.func52.trans (congrArg some (by kernel_rfl))
  f217 := Tryz.func67.trans (congrArg some (by kernel_rfl))
  f266 := Tryz.func81.trans (congrArg some (by kernel_rfl))
  t3 := Tryz.underlying3
  a3 := Tryz.isAgg3
  z3 := Tryz.sizeOf3
  v3 := Tryz.zeroValue3
  t5 := Tryz.underlying5
  a5 := Tryz.isAgg5
  z5 := Tryz.sizeOf5
  v5 := Tryz.zeroValue5
  t9 := Tryz.underlying9
  a9 := Tryz.isAgg9
  z9 := Tryz.sizeOf9
  v9 := Tryz.zeroValue9 }
def Tryz.l219_ren : Go.Shelf.Ren := ⟨fun | 219 => 80 | 217 => 67 | 225 => 93 | 224 => 94 | 267 => 95 | 266 => 81 | 314 => 104 | n => n, fun | 9 => 9 | 3 => 3 | 4 => 4 | 5 => 5 | 46 => 97 | 146 => 133 | 51 => 132 | n => n, fun | 1 => 0 | n => n⟩
theorem Tryz.l219 : Go.Proofs.Lays.n219 Tryz.prog Tryz.l219_ren := {
  mixed := by kernel_rfl
  f217 := Tryz.func67.trans (congrArg some (by kernel_rfl))
  f219 := Tryz.func80.trans (congrArg some (by kernel_rfl))
  f224 := Tryz.func94.trans (congrArg some (by kernel_rfl))
  f225 := Tryz.func93.trans (congrArg some (by kernel_rfl))
  f266 := Tryz.func81.trans (congrArg some (by kernel_rfl))
  f267 := Tryz.func95.trans (congrArg some (by kernel_rfl))
  f314 := Tryz.func104.trans (congrArg some (by kernel_rfl))
  t3 := Tryz.underlying3
  a3 := Tryz.isAgg3
  z3 := Tryz.sizeOf3
  v3 := Tryz.zeroValue3
  t4 := Tryz.underlying4
  a4 := Tryz.isAgg4
  z4 := Tryz.sizeOf4
  v4 := Tryz.zeroValue4
  t5 := Tryz.underlying5
  a5 := Tryz.isAgg5
  z5 := Tryz.sizeOf5
  v5 := Tryz.zeroValue5
  t9 := Tryz.underlying9
  a9 := Tryz.isAgg9
  z9 := Tryz.sizeOf9
  v9 := Tryz.zeroValue9
  t46 := Tryz.underlying97
  a46 := Tryz.isAgg97
  z46 := Tryz.sizeOf97
  v46 := Tryz.zeroValue97
  t51 := Tryz.underlying132
  a51 := Tryz.isAgg132
  z51 := Tryz.sizeOf132
  v51 := Tryz.zeroValue132
  t146 := Tryz.underlying133
  a146 := Tryz.isAgg133
  z146 := Tryz.sizeOf133
  v146 := Tryz.zeroValue133
  g1 := by kernel_rfl }

theorem indexByte_any (s : ByteArray) (c : Int) (w : World) :
    Calls Tryz.prog 52 #[.string s, .int .u8 c] w fun e w' => e = .returned (.int .i64 (Lib.indexByte s.data.toList c.toNat.toUInt8)) ∧ w = w' := by
  have h := Any.strings_IndexByte Tryz.l137 s c w
  change Calls Tryz.prog 52 _ _ _ at h
  exact h.mono fun _ _ ⟨h1, h2⟩ => ⟨h1, h2.symm⟩
theorem index_one (s : ByteArray) (c : UInt8) (w : World) :
    Calls Tryz.prog 80 #[.string s, .string ⟨#[c]⟩] w fun e w' => e = .returned (.int .i64 (Lib.indexByte s.data.toList c)) ∧ w = w' := by
  have h := Any.stringslite_Index_one Tryz.l219 s c w
  change Calls Tryz.prog 80 _ _ _ at h
  exact h.mono fun _ _ ⟨h1, h2⟩ => ⟨h1, h2.symm⟩

theorem icut_yes (s : ByteArray) (c : UInt8) (i : Nat) (w : World) (hs : s.size ≤ 1000000) (hi : Lib.indexByte s.data.toList c = i) (hlt : i < s.size) :
    Calls Tryz.prog 65 #[.string s, .string ⟨#[c]⟩] w fun e w' => e = .returned (.tuple #[.string (s.extract 0 i), .string (s.extract (i + 1) s.size), .bool true]) ∧ ∃ n, w' = w.drewN n := by
  have H := Lib.hid (fun W => by have := index_one s c W; rw [hi] at this; exact this)
  clear hi
  go_enter Tryz.func65, Tryz.ntmps65
  go_wp2_with fail
  refine (H.out _).mono ?_
  rintro e w1 ⟨rfl, rfl⟩
  go_wp2_with fail
  go_quiet (fail)
  go_wp2_with fail
  go_ret3
  exact ⟨rfl, _, rfl⟩
theorem icut_no (s : ByteArray) (c : UInt8) (w : World) (hi : Lib.indexByte s.data.toList c = -1) :
    Calls Tryz.prog 65 #[.string s, .string ⟨#[c]⟩] w fun e w' => e = .returned (.tuple #[.string s, .string ByteArray.empty, .bool false]) ∧ w = w' := by
  have H := Lib.hid (fun W => by have := index_one s c W; rw [hi] at this; exact this)
  clear hi
  go_enter Tryz.func65, Tryz.ntmps65
  go_wp2_with fail
  refine (H.out _).mono ?_
  rintro e w1 ⟨rfl, rfl⟩
  go_wp2_with fail
  go_ret3
  exact ⟨rfl, rfl⟩
theorem cut_yes (s : ByteArray) (c : UInt8) (i : Nat) (w : World) (hs : s.size ≤ 1000000) (hi : Lib.indexByte s.data.toList c = i) (hlt : i < s.size) :
    Calls Tryz.prog 50 #[.string s, .string ⟨#[c]⟩] w fun e w' => e = .returned (.tuple #[.string (s.extract 0 i), .string (s.extract (i + 1) s.size), .bool true]) ∧ ∃ n, w' = w.drewN n := by
  have H := Lib.hid (fun W => icut_yes s c i W hs hi hlt)
  clear hi
  go_enter Tryz.func50, Tryz.ntmps50
  go_wp2_with fail
  refine (H.out _).mono ?_
  rintro e w1 ⟨rfl, n, rfl⟩
  go_wp2_with fail
  go_ret3
  exact ⟨rfl, n, rfl⟩
theorem cut_no (s : ByteArray) (c : UInt8) (w : World) (hi : Lib.indexByte s.data.toList c = -1) :
    Calls Tryz.prog 50 #[.string s, .string ⟨#[c]⟩] w fun e w' => e = .returned (.tuple #[.string s, .string ByteArray.empty, .bool false]) ∧ ∃ n, w' = w.drewN n := by
  have H := Lib.hid (fun W => icut_no s c W hi)
  clear hi
  go_enter Tryz.func50, Tryz.ntmps50
  go_wp2_with fail
  refine (H.out _).mono ?_
  rintro e w1 ⟨rfl, rfl⟩
  go_wp2_with fail
  go_ret3
  exact ⟨rfl, 0, rfl⟩
end Go.Proofs.YteeekdffbcbamaaGreatDoor
/-
  PLAIN LAWS of bytes: sums, the bytes of a text, decimal numbers. No program in sight.
-/
namespace Go.Proofs.YteeekdffbcbamaaGreatDoor.Plain

/-- The exclusive or of bytes. -/
def sumN (l : List UInt8) : Nat := l.foldl (fun n c => n ^^^ c.toNat) 0
theorem sumN_snoc (l : List UInt8) (c : UInt8) : sumN (l ++ [c]) = sumN l ^^^ c.toNat := by simp [sumN, List.foldl_append]
theorem sumN_lt (l : List UInt8) : sumN l < 256 := by
  have : ∀ (l : List UInt8) (n : Nat), n < 256 → l.foldl (fun n c => n ^^^ c.toNat) n < 256 := by
    intro l
    induction l with
    | nil => intro n h; exact h
    | cons c cs ih => intro n h; exact ih _ (Nat.xor_lt_two_pow (n := 8) h c.toNat_lt)
  exact this l 0 (by decide)
theorem take_snoc (s : ByteArray) (k : Nat) (h : k < s.size) : s.data.toList.take (k + 1) = s.data.toList.take k ++ [s[k]] := by
  rw [List.take_succ_eq_append_getElem (by simpa using h)]; rfl
theorem len_size (s : ByteArray) : s.data.toList.length = s.size := by rw [Array.length_toList]; rfl
theorem take_all (s : ByteArray) : s.data.toList.take s.size = s.data.toList := List.take_of_length_le (Nat.le_of_eq (len_size s))
theorem sum_step (s : ByteArray) (k : Nat) (h : k < s.size) : sumN (s.data.toList.take (k + 1)) = sumN (s.data.toList.take k) ^^^ s[k].toNat := by rw [take_snoc s k h, sumN_snoc]
theorem xor_i64 (a b : Nat) (ha : a < 256) (hb : b < 256) : bits .xor .i64 (a : Int) (b : Int) = ((a ^^^ b : Nat) : Int) := by
  have hx : a ^^^ b < 2 ^ 8 := Nat.xor_lt_two_pow (by omega) (by omega)
  show IntKind.i64.wrap ((BitVec.ofInt 64 (a : Int) ^^^ BitVec.ofInt 64 (b : Int)).toNat : Int) = _
  rw [BitVec.toNat_xor, ofInt_u64 a (by omega), ofInt_u64 b (by omega)]
  generalize a ^^^ b = x at hx ⊢
  simp [IntKind.wrap, IntKind.bits, IntKind.signed]
  omega
/-- A byte that may stand in a text. -/
def fitB (c : UInt8) : Bool := decide (32 ≤ c.toNat) && decide (c.toNat ≤ 126) && !(c.toNat == 44 || c.toNat == 42 || c.toNat == 36)
def textE (l : List UInt8) : Int := if 80 < l.length then 4 else if l.all fitB then 0 else 3
theorem fit_all_step (s : ByteArray) (k : Nat) (h : k < s.size) : (s.data.toList.take (k + 1)).all fitB = ((s.data.toList.take k).all fitB && fitB s[k]) := by
  rw [take_snoc s k h, List.all_append]
  simp
theorem all_take_false (l : List UInt8) (k : Nat) (h : (l.take k).all fitB = false) : l.all fitB = false := by
  cases ha : l.all fitB
  · rfl
  · rw [List.all_eq_true] at ha
    rw [List.all_eq_false] at h
    obtain ⟨x, hx, hf⟩ := h
    exact absurd (ha x (List.mem_of_mem_take hx)) hf
end Go.Proofs.YteeekdffbcbamaaGreatDoor.Plain
/-
  PLAIN LAWS of fields: how far a field goes, what is cut off it.
-/
namespace Go.Proofs.YteeekdffbcbamaaGreatDoor.Plain

/-- How many bytes stand ahead of the first c. -/
def upto (l : List UInt8) (c : UInt8) : Nat := (l.takeWhile (fun x => x != c)).length
theorem upto_le (l : List UInt8) (c : UInt8) : upto l c ≤ l.length := (List.takeWhile_sublist _).length_le
theorem upto_cons (x : UInt8) (l : List UInt8) (c : UInt8) : upto (x :: l) c = if x = c then 0 else upto l c + 1 := by
  unfold upto
  by_cases h : x = c
  · simp [h]
  · simp [h]
theorem index_upto (l : List UInt8) (c : UInt8) : Lib.indexByte l c = if upto l c < l.length then (upto l c : Int) else -1 := by
  induction l with
  | nil => rfl
  | cons x xs ih =>
    have hle := upto_le xs c
    rw [upto_cons]
    unfold Lib.indexByte
    by_cases h : x = c
    · simp [h]
    · have hb : (x == c) = false := by simpa using h
      rw [ih, if_neg h]
      simp only [hb, Bool.false_eq_true, if_false]
      by_cases h2 : upto xs c < xs.length
      · have h3 : ((upto xs c : Int) == -1) = false := beq_eq_false_iff_ne.2 (by omega)
        have h4 : upto xs c + 1 < (x :: xs).length := by rw [List.length_cons]; omega
        simp only [if_pos h2, if_pos h4, h3, Bool.false_eq_true, if_false]
        omega
      · have h4 : ¬ upto xs c + 1 < (x :: xs).length := by rw [List.length_cons]; omega
        simp only [if_neg h2, if_neg h4]
        rfl
theorem extract_list (s : ByteArray) (a e : Nat) : (s.extract a e).data.toList = (s.data.toList.drop a).take (e - a) := Lib.extract_data s a e
theorem extract_size (s : ByteArray) (a e : Nat) (h : a ≤ e) (he : e ≤ s.size) : (s.extract a e).size = e - a := by
  rw [ByteArray.size_extract]; omega
/-- What stands behind the separator. -/
def restB (g : ByteArray) (n : Nat) : ByteArray := if n < g.size then g.extract (n + 1) g.size else ByteArray.empty
/-- The bytes of a field that begins at a. -/
def fldN (s : ByteArray) (a e : Nat) : Nat := upto ((s.data.toList.drop a).take (e - a)) 44
theorem fldN_le (s : ByteArray) (a e : Nat) (h : a ≤ e) (he : e ≤ s.size) : a + fldN s a e ≤ e := by
  have := upto_le ((s.data.toList.drop a).take (e - a)) 44
  rw [List.length_take, List.length_drop, len_size] at this
  unfold fldN
  omega
end Go.Proofs.YteeekdffbcbamaaGreatDoor.Plain
/-
  PLAIN LAWS of numbers in a line.
-/
namespace Go.Proofs.YteeekdffbcbamaaGreatDoor.Plain

def digB (c : UInt8) : Bool := decide (48 ≤ c.toNat) && decide (c.toNat ≤ 57)
def decV (acc : Nat) (l : List UInt8) : Nat := l.foldl (fun a c => a * 10 + (c.toNat - 48)) acc
def negB (l : List UInt8) : Bool := l.head? == some 45
/-- What stands behind a sign. -/
def body (l : List UInt8) : List UInt8 := if negB l then l.tail else l
def badB (l : List UInt8) : Bool := (body l).isEmpty || decide (19 < (body l).length) || ((body l).head? == some 48 && l != [48]) || !(body l).all digB
def numV (l : List UInt8) : Int := if negB l then -(decV 0 (body l) : Int) else decV 0 (body l)
/-- The error of a number from lo to hi. -/
def numE (l : List UInt8) (lo hi wrong : Int) : Int := if badB l then 11 else if numV l < lo then 2 else if hi < numV l then wrong else 0

theorem decV_ge (l : List UInt8) (acc : Nat) : acc ≤ decV acc l := by
  induction l generalizing acc with
  | nil => exact Nat.le_refl _
  | cons c r ih =>
    have := ih (acc * 10 + (c.toNat - 48))
    unfold decV at this ⊢
    simp only [List.foldl_cons]
    omega
theorem parse_dig (d : List UInt8) (acc : Nat) (ha : acc < 18446744073709551616) (h : d.all digB = true) :
    Lib.parseUint10 acc d = if decV acc d < 18446744073709551616 then .ok (decV acc d) else .range := by
  induction d generalizing acc with
  | nil => simp [Lib.parseUint10, decV, ha]
  | cons c r ih =>
    simp only [List.all_cons, Bool.and_eq_true] at h
    obtain ⟨hc, hr⟩ := h
    have hc' : 48 ≤ c.toNat ∧ c.toNat ≤ 57 := by simpa [digB] using hc
    have hge := decV_ge r (acc * 10 + (c.toNat - 48))
    have e : decV acc (c :: r) = decV (acc * 10 + (c.toNat - 48)) r := rfl
    rw [e]
    unfold Lib.parseUint10
    rw [if_pos hc']
    by_cases h1 : 1844674407370955162 ≤ acc
    · rw [if_pos h1, if_neg (by omega)]
    · rw [if_neg h1]
      by_cases h2 : 18446744073709551616 ≤ acc * 10 + (c.toNat - 48)
      · rw [if_pos h2, if_neg (by omega)]
      · rw [if_neg h2]
        exact ih _ (by omega) hr
theorem bad_parts {l : List UInt8} (h : badB l = false) : body l ≠ [] ∧ (body l).length ≤ 19 ∧ ((body l).head? = some 48 → l = [48]) ∧ (body l).all digB = true := by
  unfold badB at h
  simp only [Bool.or_eq_false_iff, Bool.and_eq_false_iff] at h
  obtain ⟨⟨⟨h1, h2⟩, h3⟩, h4⟩ := h
  refine ⟨?_, ?_, ?_, ?_⟩
  · intro e
    rw [e] at h1
    cases h1
  · simpa using h2
  · intro e
    rcases h3 with h3 | h3
    · rw [e] at h3
      simp at h3
    · simpa using h3
  · simpa using h4
theorem atoi_of {l : List UInt8} (h : badB l = false) : Lib.atoiAll l = if -9223372036854775808 ≤ numV l ∧ numV l < 9223372036854775808 then .ok (numV l) else .range := by
  obtain ⟨h1, _, _, h4⟩ := bad_parts h
  have hp := parse_dig (body l) 0 (by decide) h4
  unfold numV
  cases l with
  | nil => exact absurd rfl h1
  | cons c r =>
    by_cases hn : c = 45
    · have e1 : negB (c :: r) = true := by simp [negB, hn]
      have e2 : body (c :: r) = r := by simp [body, e1]
      rw [e2] at hp h1 h4
      rw [e1, e2]
      subst hn
      unfold Lib.atoiAll
      have e3 : Lib.parseMag r = Lib.parseUint10 0 r := by unfold Lib.parseMag; rw [if_neg h1]
      simp only [show (45 : UInt8).toNat = 45 from rfl, or_true, if_true, e3, hp]
      generalize decV 0 r = v
      by_cases h5 : v < 18446744073709551616
      · rw [if_pos h5]
        by_cases h6 : 9223372036854775808 < v
        · simp only [not_true_eq_false, false_and, if_false, true_and, if_pos h6]
          rw [if_neg (by omega)]
        · simp only [not_true_eq_false, false_and, if_false, true_and, if_neg h6]
          rw [if_pos (by omega)]
      · rw [if_neg h5]
        simp only
        rw [if_neg (by omega)]
    · have e1 : negB (c :: r) = false := by simp [negB, hn]
      have e2 : body (c :: r) = c :: r := by simp [body, e1]
      rw [e2] at hp h1 h4
      rw [e1, e2]
      have hc : 48 ≤ c.toNat ∧ c.toNat ≤ 57 := by
        simp only [List.all_cons, Bool.and_eq_true] at h4
        simpa [digB] using h4.1
      unfold Lib.atoiAll
      have e3 : Lib.parseMag (c :: r) = Lib.parseUint10 0 (c :: r) := by unfold Lib.parseMag; rw [if_neg h1]
      have e4 : ¬ (c.toNat = 43 ∨ c.toNat = 45) := by omega
      have e5 : ¬ c.toNat = 45 := by omega
      simp only [if_neg e4, e3, hp]
      generalize decV 0 (c :: r) = v
      by_cases h5 : v < 18446744073709551616
      · rw [if_pos h5]
        by_cases h6 : 9223372036854775808 ≤ v
        · simp only [e5, not_false_eq_true, true_and, if_pos h6, Bool.false_eq_true, if_false]
          rw [if_neg (by omega)]
        · simp only [e5, not_false_eq_true, true_and, if_neg h6, false_and, if_false, Bool.false_eq_true]
          rw [if_pos (by omega)]
      · rw [if_neg h5]
        simp only [Bool.false_eq_true, if_false]
        rw [if_neg (by omega)]

def digits : List UInt8 := [48, 49, 50, 51, 52, 53, 54, 55, 56, 57]
theorem digits_has (c : UInt8) : digits.contains c = digB c := by
  unfold digits digB
  rw [Bool.eq_iff_iff]
  simp only [List.contains_eq_mem, List.mem_cons, List.not_mem_nil, or_false, decide_eq_true_eq, Bool.and_eq_true, ← UInt8.toNat_inj]
  simp only [UInt8.reduceToNat]
  omega
theorem trim_empty (d : List UInt8) : Lib.trimS d digits = [] ↔ d.all digB = true := by
  have hf : (fun c => digits.contains c) = digB := funext digits_has
  unfold Lib.trimS Lib.trimLeftS Lib.trimRightS
  have e1 : ∀ l : List UInt8, l.dropWhile digB = [] ↔ l.all digB = true := by
    intro l
    induction l with
    | nil => simp
    | cons x xs ih => by_cases h : digB x = true <;> simp [h, ih]
  have e2 : ∀ l : List UInt8, (l.dropWhile digB).all digB = l.all digB := by
    intro l
    induction l with
    | nil => rfl
    | cons x xs ih =>
      by_cases h : digB x = true
      · simp only [List.dropWhile_cons, h, if_true, List.all_cons, Bool.true_and]
        exact ih
      · simp [h]
  rw [hf, e1, List.all_reverse, e2, List.all_reverse]
end Go.Proofs.YteeekdffbcbamaaGreatDoor.Plain
/-
  WALKS: which texts are right (texted of package report; text of the reference).
-/
namespace Go.Proofs.YteeekdffbcbamaaGreatDoor
open Go.RowKit

/-- The place of a byte among ',', '*', '$'. -/
def markI (c : UInt8) : Int := Lib.indexByte [44, 42, 36] c
theorem markI_lt (c : UInt8) (h : (c.toNat == 44 || c.toNat == 42 || c.toNat == 36) = false) : markI c = -1 := by
  simp at h
  have h1 : c ≠ 44 := fun e => h.1.1 (by rw [e]; rfl)
  have h2 : c ≠ 42 := fun e => h.1.2 (by rw [e]; rfl)
  have h3 : c ≠ 36 := fun e => h.2 (by rw [e]; rfl)
  simp [markI, Lib.indexByte, h1.symm, h2.symm, h3.symm]
theorem markI_ge (c : UInt8) (h : (c.toNat == 44 || c.toNat == 42 || c.toNat == 36) = true) : 0 ≤ markI c := by
  simp at h
  rcases h with (h | h) | h
  · obtain rfl : c = 44 := UInt8.toNat_inj.1 h; decide
  · obtain rfl : c = 42 := UInt8.toNat_inj.1 h; decide
  · obtain rfl : c = 36 := UInt8.toNat_inj.1 h; decide

set_option maxHeartbeats 1000000 in
theorem texted_any (s : ByteArray) (w : World) (hs : s.size ≤ 1000000) (r : Int) (hr : Plain.textE s.data.toList = r) :
    Calls Tryz.prog 45 #[.string s] w fun e w' => e = .returned (.int .i64 r) ∧ w = w' := by
  unfold Plain.textE at hr
  rw [Plain.len_size] at hr
  by_cases hb : 80 < s.size
  · rw [if_pos hb] at hr
    subst hr
    go_enter Tryz.func45, Tryz.ntmps45
    go_wp2_with fail
    go_ret
    exact ⟨rfl, rfl⟩
  · rw [if_neg hb] at hr
    have hb2 : s.size ≤ 80 := by omega
    clear hb
    have HR := Lib.hid hr; clear hr
    have HF := Lib.hid (Plain.take_all s)
    go_enter Tryz.func45, Tryz.ntmps45
    go_wp2_with fail
    go_loop [9] (fun i => ∃ k : Nat, k ≤ s.size ∧ i = .int .i64 k ∧ Hid ((s.data.toList.take k).all Plain.fitB = true)) (fun i => s.size - (intOf i).toNat)
    case atStart => exact ⟨0, Nat.zero_le _, rfl, Lib.hid rfl⟩
    case round =>
      obtain ⟨k, hk, rfl, hA⟩ := hrel
      by_cases hlt : k < s.size
      · have hst := Plain.fit_all_step s k hlt
        rw [hA.out, Bool.true_and] at hst
        have hbad := Plain.all_take_false s.data.toList (k + 1)
        have HI := Lib.hid (fun W => indexByte_any ⟨#[44, 42, 36]⟩ (s[k].toNat : Int) W)
        have hc2 : s[k].toNat < 256 := s[k].toNat_lt
        have hcv : ((s[k].toNat : Int)).toNat.toUInt8 = s[k] := by simp
        rw [hcv] at HI
        change Hid (∀ W, Calls Tryz.prog 52 _ W fun e w' => e = .returned (.int .i64 (markI s[k])) ∧ _) at HI
        clear hcv
        have hml := markI_lt s[k]
        have hmg := markI_ge s[k]
        have hfit : Plain.fitB s[k] = (decide (32 ≤ s[k].toNat) && decide (s[k].toNat ≤ 126) && !(s[k].toNat == 44 || s[k].toNat == 42 || s[k].toNat == 36)) := rfl
        rw [hfit] at hst
        clear hfit
        have hml2 : -1 ≤ markI s[k] := Lib.indexByte_ge _ _
        by_cases h1 : s[k].toNat < 32
        · have hr3 := HR.out
          rw [hbad (by rw [hst]; simp; omega)] at hr3
          simp at hr3
          subst hr3
          clear hst hbad hml hmg hml2 HI
          have h1' : (s[k].toNat : Int) < 32 := by omega
          go_wp2_with fail
          go_ret
          exact ⟨rfl, rfl⟩
        · by_cases h2 : 126 < s[k].toNat
          · have hr3 := HR.out
            rw [hbad (by rw [hst]; simp; omega)] at hr3
            simp at hr3
            subst hr3
            clear hst hbad hml hmg hml2 HI
            have h1' : (32 : Int) ≤ s[k].toNat := by omega
            have h2' : (126 : Int) < s[k].toNat := by omega
            go_wp2_with fail
            go_ret
            exact ⟨rfl, rfl⟩
          · have h1' : (32 : Int) ≤ s[k].toNat := by omega
            have h2' : (s[k].toNat : Int) ≤ 126 := by omega
            cases hm : (s[k].toNat == 44 || s[k].toNat == 42 || s[k].toNat == 36)
            · have hmi := hml hm
              rw [hmi] at HI
              have HS := Lib.hid (show (s.data.toList.take (k + 1)).all Plain.fitB = true by rw [hst, hm]; simp; omega)
              clear hst hbad hml hmg hml2 hmi hm
              go_wp2_with fail
              refine (HI.out _).mono ?_
              rintro e w1 ⟨rfl, rfl⟩
              go_wp2_with fail
              go_round
              case rel => exact ⟨k + 1, by omega, by go_num, HS⟩
              case measure => simp [intOf]; omega
            · have hmi := hmg hm
              have hr3 := HR.out
              rw [hbad (by rw [hst, hm]; simp)] at hr3
              simp at hr3
              subst hr3
              clear hst hbad hml hmg hml2 hm
              generalize markI s[k] = z at *
              go_wp2_with fail
              refine (HI.out _).mono ?_
              rintro e w1 ⟨rfl, rfl⟩
              go_wp2_with fail
              go_ret
              exact ⟨rfl, rfl⟩
      · obtain rfl : k = s.size := by omega
        have h := hA.out
        rw [HF.out] at h
        have hr3 := HR.out
        rw [h] at hr3
        simp at hr3
        subst hr3
        clear h
        go_wp2_with fail
        go_ret
        exact ⟨rfl, rfl⟩
theorem fits_any (c : UInt8) (w : World) : Calls Tryz.prog 59 #[.int .u8 c.toNat] w fun e w' => e = .returned (.bool (Plain.fitB c)) ∧ w = w' := by
  have hc : c.toNat < 256 := c.toNat_lt
  by_cases h1 : 32 ≤ c.toNat
  · by_cases h2 : c.toNat ≤ 126
    · cases h3 : (c.toNat == 44)
      · cases h4 : (c.toNat == 42)
        · have H := Lib.hid (show Plain.fitB c = !(c.toNat == 36) by simp [Plain.fitB, h1, h2, h3, h4])
          have q3 : ((c.toNat : Int) == 44) = false := by simp at h3 ⊢; omega
          have q4 : ((c.toNat : Int) == 42) = false := by simp at h4 ⊢; omega
          have p3 : ((c.toNat : Int) != 44) = true := by simp at h3 ⊢; omega
          have p4 : ((c.toNat : Int) != 42) = true := by simp at h4 ⊢; omega
          have h1' : (32 : Int) ≤ c.toNat := by omega
          have h2' : (c.toNat : Int) ≤ 126 := by omega
          clear h3 h4
          cases h5 : (c.toNat == 36)
          · rw [h5] at H
            have p5 : ((c.toNat : Int) != 36) = true := by simp at h5 ⊢; omega
            clear h5
            go_enter Tryz.func59, Tryz.ntmps59
            go_wp2_with fail
            go_ret
            exact ⟨by rw [H.out]; rfl, rfl⟩
          · rw [h5] at H
            have p5 : ((c.toNat : Int) != 36) = false := by simp at h5 ⊢; omega
            clear h5
            go_enter Tryz.func59, Tryz.ntmps59
            go_wp2_with fail
            go_ret
            exact ⟨by rw [H.out]; rfl, rfl⟩
        · have H := Lib.hid (show Plain.fitB c = false by simp [Plain.fitB, h4])
          have p3 : ((c.toNat : Int) != 44) = true := by simp at h3 ⊢; omega
          have p4 : ((c.toNat : Int) != 42) = false := by simp at h4 ⊢; omega
          have h1' : (32 : Int) ≤ c.toNat := by omega
          have h2' : (c.toNat : Int) ≤ 126 := by omega
          clear h3 h4
          go_enter Tryz.func59, Tryz.ntmps59
          go_wp2_with fail
          go_ret
          exact ⟨by rw [H.out]; rfl, rfl⟩
      · have H := Lib.hid (show Plain.fitB c = false by simp [Plain.fitB, h3])
        have p3 : ((c.toNat : Int) != 44) = false := by simp at h3 ⊢; omega
        have h1' : (32 : Int) ≤ c.toNat := by omega
        have h2' : (c.toNat : Int) ≤ 126 := by omega
        clear h3
        go_enter Tryz.func59, Tryz.ntmps59
        go_wp2_with fail
        go_ret
        exact ⟨by rw [H.out]; rfl, rfl⟩
    · have H := Lib.hid (show Plain.fitB c = false by simp [Plain.fitB, h2])
      have h1' : (32 : Int) ≤ c.toNat := by omega
      have h2' : (126 : Int) < c.toNat := by omega
      clear h1 h2
      go_enter Tryz.func59, Tryz.ntmps59
      go_wp2_with fail
      go_ret
      exact ⟨by rw [H.out]; rfl, rfl⟩
  · have H := Lib.hid (show Plain.fitB c = false by simp [Plain.fitB, h1])
    have h1' : (c.toNat : Int) < 32 := by omega
    clear h1
    go_enter Tryz.func59, Tryz.ntmps59
    go_wp2_with fail
    go_ret
    exact ⟨by rw [H.out]; rfl, rfl⟩

set_option maxHeartbeats 1000000 in
theorem rtext_any (s : ByteArray) (w : World) (hs : s.size ≤ 1000000) (r : Int) (hr : Plain.textE s.data.toList = r) :
    Calls Tryz.prog 39 #[.string s] w fun e w' => e = .returned (.int .i64 r) ∧ w = w' := by
  unfold Plain.textE at hr
  rw [Plain.len_size] at hr
  by_cases hb : 80 < s.size
  · rw [if_pos hb] at hr
    subst hr
    go_enter Tryz.func39, Tryz.ntmps39
    go_wp2_with fail
    go_ret
    exact ⟨rfl, rfl⟩
  · rw [if_neg hb] at hr
    have hb2 : s.size ≤ 80 := by omega
    clear hb
    have HR := Lib.hid hr; clear hr
    have HF := Lib.hid (Plain.take_all s)
    go_enter Tryz.func39, Tryz.ntmps39
    go_wp2_with fail
    go_loop [3] (fun i => ∃ k : Nat, k ≤ s.size ∧ i = .int .i64 k ∧ Hid ((s.data.toList.take k).all Plain.fitB = true)) (fun i => s.size - (intOf i).toNat)
    case atStart => exact ⟨0, Nat.zero_le _, rfl, Lib.hid rfl⟩
    case round =>
      obtain ⟨k, hk, rfl, hA⟩ := hrel
      by_cases hlt : k < s.size
      · have hst := Plain.fit_all_step s k hlt
        rw [hA.out, Bool.true_and] at hst
        have hbad := Plain.all_take_false s.data.toList (k + 1)
        have HI := Lib.hid (fun W => fits_any s[k] W)
        have hc2 : s[k].toNat < 256 := s[k].toNat_lt
        cases hf : Plain.fitB s[k]
        · rw [hf] at HI
          have hr3 := HR.out
          rw [hbad (by rw [hst, hf])] at hr3
          simp at hr3
          subst hr3
          clear hst hbad hf
          go_wp2_with fail
          refine (HI.out _).mono ?_
          rintro e w1 ⟨rfl, rfl⟩
          go_wp2_with fail
          go_ret
          exact ⟨rfl, rfl⟩
        · rw [hf] at HI
          have HS := Lib.hid (show (s.data.toList.take (k + 1)).all Plain.fitB = true by rw [hst, hf])
          clear hst hbad hf
          go_wp2_with fail
          refine (HI.out _).mono ?_
          rintro e w1 ⟨rfl, rfl⟩
          go_wp2_with fail
          go_round
          case rel => exact ⟨k + 1, by omega, by go_num, HS⟩
          case measure => simp [intOf]; omega
      · obtain rfl : k = s.size := by omega
        have h := hA.out
        rw [HF.out] at h
        have hr3 := HR.out
        rw [h] at hr3
        simp at hr3
        subst hr3
        clear h
        go_wp2_with fail
        go_ret
        exact ⟨rfl, rfl⟩
end Go.Proofs.YteeekdffbcbamaaGreatDoor
/-
  THE READER's BLOCK: the line, where it reads, where the fields end, whether there are more, the fault; then further cells. fail.
-/
namespace Go.Proofs.YteeekdffbcbamaaGreatDoor
open Go.RowKit

def rd6 (s : ByteArray) (at' e : Nat) (more : Bool) (er ea : Int) : Array Value := #[.string s, .int .i64 at', .int .i64 e, .bool more, .int .i64 er, .int .i64 ea]
/-- The block b is a reader. -/
def Rd (w : World) (b : Nat) (T : TypeId) (s : ByteArray) (at' e : Nat) (more : Bool) (er ea : Int) (X : Array Value) : Prop :=
  w.heap[b]? = some (.cells (rd6 s at' e more er ea ++ X) T (0, 0))

section
variable {w w' : World} {b : Nat} {T : TypeId} {s : ByteArray} {at' e : Nat} {more : Bool} {er ea : Int} {X : Array Value}
theorem Rd.lt (h : Rd w b T s at' e more er ea X) : b < w.heap.size := by
  rcases Nat.lt_or_ge b w.heap.size with hlt | hge
  · exact hlt
  · unfold Rd at h
    rw [Array.getElem?_eq_none hge] at h
    cases h
theorem Rd.cells (h : Rd w b T s at' e more er ea X) : w.cell? ⟨b, 0, none⟩ = some (.string s) ∧ w.cell? ⟨b, 1, none⟩ = some (.int .i64 at') ∧ w.cell? ⟨b, 2, none⟩ = some (.int .i64 e) ∧ w.cell? ⟨b, 3, none⟩ = some (.bool more) ∧ w.cell? ⟨b, 4, none⟩ = some (.int .i64 er) ∧ w.cell? ⟨b, 5, none⟩ = some (.int .i64 ea) := by
  unfold Rd rd6 at h
  simp [World.cell?, h, Array.getElem?_append]
theorem Rd.x (h : Rd w b T s at' e more er ea X) (i : Nat) (v : Value) (hv : X[i]? = some v) : w.cell? ⟨b, 6 + i, none⟩ = some v := by
  unfold Rd rd6 at h
  simp [World.cell?, h, Array.getElem?_append, hv]
theorem Rd.frozen (h : Rd w b T s at' e more er ea X) (i : Nat) : w.frozen? ⟨b, i, none⟩ = false := by
  unfold Rd at h
  simp [World.frozen?, h]
theorem Rd.grown {row : Option Nat} (h : Rd w b T s at' e more er ea X) (hg : w.grownBy w' row) (hr : some b ≠ row) : Rd w' b T s at' e more er ea X := (hg.block b h.lt hr).trans h
theorem Rd.alloc (h : Rd w b T s at' e more er ea X) (o : Obj) : Rd (w.alloc o) b T s at' e more er ea X := (Below.heap_alloc w o b h.lt).trans h
theorem Rd.drewN (h : Rd w b T s at' e more er ea X) (n : Nat) : Rd (w.drewN n) b T s at' e more er ea X := h
theorem Rd.setAt (h : Rd w b T s at' e more er ea X) (a2 : Nat) : Rd (w.setCell ⟨b, 1, none⟩ (.int .i64 a2)) b T s a2 e more er ea X := by
  unfold Rd rd6 at h ⊢
  simp [World.setCell, Array.getElem?_modify, h, Array.setIfInBounds_append_left]
theorem Rd.setMore (h : Rd w b T s at' e more er ea X) (m2 : Bool) : Rd (w.setCell ⟨b, 3, none⟩ (.bool m2)) b T s at' e m2 er ea X := by
  unfold Rd rd6 at h ⊢
  simp [World.setCell, Array.getElem?_modify, h, Array.setIfInBounds_append_left]
theorem Rd.setErr (h : Rd w b T s at' e more er ea X) (c : Int) : Rd (w.setCell ⟨b, 4, none⟩ (.int .i64 c)) b T s at' e more c ea X := by
  unfold Rd rd6 at h ⊢
  simp [World.setCell, Array.getElem?_modify, h, Array.setIfInBounds_append_left]
theorem Rd.setEat (h : Rd w b T s at' e more er ea X) (c : Int) : Rd (w.setCell ⟨b, 5, none⟩ (.int .i64 c)) b T s at' e more er c X := by
  unfold Rd rd6 at h ⊢
  simp [World.setCell, Array.getElem?_modify, h, Array.setIfInBounds_append_left]
theorem Rd.setX (h : Rd w b T s at' e more er ea X) (i : Nat) (v : Value) : Rd (w.setCell ⟨b, 6 + i, none⟩ v) b T s at' e more er ea (X.setIfInBounds i v) := by
  unfold Rd rd6 at h ⊢
  simp [World.setCell, Array.getElem?_modify, h, Array.setIfInBounds_append_right]
end

theorem grown_refl (w : World) (row : Option Nat) : w.grownBy w row := ⟨rfl, rfl, rfl, Nat.le_refl _, fun _ _ _ => rfl⟩
theorem grown_trans {a b c : World} {row : Option Nat} (h : a.grownBy b row) (k : b.grownBy c row) : a.grownBy c row :=
  ⟨k.os.trans h.os, k.tape.trans h.tape, k.output.trans h.output, Nat.le_trans h.size k.size, fun i hi hr => (k.block i (Nat.lt_of_lt_of_le hi h.size) hr).trans (h.block i hi hr)⟩
theorem grown_drewN (w : World) (n : Nat) (row : Option Nat) : w.grownBy (w.drewN n) row := ⟨rfl, rfl, rfl, Nat.le_refl _, fun _ _ _ => rfl⟩
theorem grown_set (w : World) (b o : Nat) (v : Value) : w.grownBy (w.setCell ⟨b, o, none⟩ v) (some b) :=
  ⟨rfl, rfl, rfl, by simp [World.setCell], fun i _ hr => by
    have : b ≠ i := fun e => hr (by rw [e])
    simp [World.setCell, Array.getElem?_modify, this]⟩
theorem grown_none {a b : World} {row : Option Nat} (h : a.grownBy b none) : a.grownBy b row := ⟨h.os, h.tape, h.output, h.size, fun i hi _ => h.block i hi (by simp)⟩
theorem grown_below {w w' : World} (h : Below w.heap.size w w') : w.grownBy w' none := ⟨h.os, h.tape, h.output, h.size, fun i hi _ => h.block i hi⟩

namespace Plain
/-- The first fault stays. -/
def fe (er c : Int) : Int := if er = 0 then c else er
def fa (er ea z : Int) : Int := if er = 0 then z else ea
theorem fe_zero (c : Int) : fe 0 c = c := by simp [fe]
theorem fa_zero (ea z : Int) : fa 0 ea z = z := by simp [fa]
theorem fe_no {er c : Int} (h : er ≠ 0) : fe er c = er := by simp [fe, h]
theorem fa_no {er ea z : Int} (h : er ≠ 0) : fa er ea z = ea := by simp [fa, h]
end Plain

theorem fail_any (b T : Nat) (s : ByteArray) (at' e : Nat) (more : Bool) (er ea c z : Int) (X : Array Value) (w : World) (h : Rd w b T s at' e more er ea X) :
    Calls Tryz.prog 34 #[.pointer (some ⟨b, 0, none⟩), .int .i64 c, .int .i64 z] w fun en w' => en = .returned (.tuple #[]) ∧ Rd w' b T s at' e more (Plain.fe er c) (Plain.fa er ea z) X ∧ w.grownBy w' (some b) := by
  obtain ⟨c0, c1, c2, c3, c4, c5⟩ := h.cells
  have hfr := h.frozen
  have hlt := h.lt
  have H := Lib.hid h; clear h
  by_cases he : er = 0
  · subst he
    go_enter Tryz.func34, Tryz.ntmps34
    go_wp2_with fail
    go_end0
    refine ⟨rfl, ?_, grown_trans (grown_set _ _ _ _) (grown_set _ _ _ _)⟩
    rw [Plain.fe_zero, Plain.fa_zero]
    exact (H.out.setErr c).setEat z
  · have hq : (er == 0) = false := beq_eq_false_iff_ne.2 he
    rw [Plain.fe_no he, Plain.fa_no he]
    clear he
    go_enter Tryz.func34, Tryz.ntmps34
    go_wp2_with fail
    go_end0
    exact ⟨rfl, H.out, grown_refl _ _⟩
theorem rfail_any (b T : Nat) (s : ByteArray) (at' e : Nat) (more : Bool) (er ea c z : Int) (X : Array Value) (w : World) (h : Rd w b T s at' e more er ea X) :
    Calls Tryz.prog 38 #[.pointer (some ⟨b, 0, none⟩), .int .i64 c, .int .i64 z] w fun en w' => en = .returned (.tuple #[]) ∧ Rd w' b T s at' e more (Plain.fe er c) (Plain.fa er ea z) X ∧ w.grownBy w' (some b) := by
  obtain ⟨c0, c1, c2, c3, c4, c5⟩ := h.cells
  have hfr := h.frozen
  have hlt := h.lt
  have H := Lib.hid h; clear h
  by_cases he : er = 0
  · subst he
    go_enter Tryz.func38, Tryz.ntmps38
    go_wp2_with fail
    go_end0
    refine ⟨rfl, ?_, grown_trans (grown_set _ _ _ _) (grown_set _ _ _ _)⟩
    rw [Plain.fe_zero, Plain.fa_zero]
    exact (H.out.setErr c).setEat z
  · have hq : (er == 0) = false := beq_eq_false_iff_ne.2 he
    rw [Plain.fe_no he, Plain.fa_no he]
    clear he
    go_enter Tryz.func38, Tryz.ntmps38
    go_wp2_with fail
    go_end0
    exact ⟨rfl, H.out, grown_refl _ _⟩
end Go.Proofs.YteeekdffbcbamaaGreatDoor
/-
  LIBRARY CONTRACTS laid for this seat: strings.TrimPrefix, HasPrefix, Trim; strconv.Atoi.
-/
namespace Go.Proofs.YteeekdffbcbamaaGreatDoor
open Go.Shelf Go.RowKit Go.Lib
def Tryz.l99_ren : Go.Shelf.Ren := ⟨fun | 99 => 51 | 206 => 66 | n => n, fun | 9 => 9 | 4 => 4 | 3 => 3 | n => n, fun | n => n⟩
theorem Tryz.l99 : Go.Proofs.Lays.n99 Tryz.prog Tryz.l99_ren := {
  mixed := by kernel_rfl
  f99 := Tryz.func51.trans (congrArg some (by kernel_rfl))
  f206 := Tryz.func66.trans (congrArg some (by kernel_rfl))
  t3 := Tryz.underlying3
  a3 := Tryz.isAgg3
  z3 := Tryz.sizeOf3
  v3 := Tryz.zeroValue3
  t4 := Tryz.underlying4
  a4 := Tryz.isAgg4
  z4 := Tryz.sizeOf4
  v4 := Tryz.zeroValue4
  t9 := Tryz.underlying9
  a9 := Tryz.isAgg9
  z9 := Tryz.sizeOf9
  v9 := Tryz.zeroValue9 }
def Tryz.l101_ren : Go.Shelf.Ren := ⟨fun | 101 => 56 | 208 => 68 | 206 => 66 | n => n, fun | 9 => 9 | 4 => 4 | 3 => 3 | n => n, fun | n => n⟩
theorem Tryz.l101 : Go.Proofs.Lays.n101 Tryz.prog Tryz.l101_ren := {
  mixed := by kernel_rfl
  f101 := Tryz.func56.trans (congrArg some (by kernel_rfl))
  f206 := Tryz.func66.trans (congrArg some (by kernel_rfl))
  f208 := Tryz.func68.trans (congrArg some (by kernel_rfl))
  t3 := Tryz.underlying3
  a3 := Tryz.isAgg3
  z3 := Tryz.sizeOf3
  v3 := Tryz.zeroValue3
  t4 := Tryz.underlying4
  a4 := Tryz.isAgg4
  z4 := Tryz.sizeOf4
  v4 := Tryz.zeroValue4
  t9 := Tryz.underlying9
  a9 := Tryz.isAgg9
  z9 := Tryz.sizeOf9
  v9 := Tryz.zeroValue9 }
def Tryz.l160_ren : Go.Shelf.Ren := ⟨fun | 160 => 57 | 232 => 70 | 231 => 69 | 227 => 71 | 234 => 73 | 233 => 72 | 236 => 75 | 235 => 74 | 228 => 82 | 271 => 85 | 151 => 84 | 197 => 83 | 120 => 98 | 152 => 97 | 260 => 96 | 137 => 52 | 119 => 105 | 224 => 94 | 225 => 93 | 217 => 67 | 266 => 81 | n => n, fun | 9 => 9 | 4 => 4 | 3 => 3 | 5 => 5 | 117 => 104 | 116 => 103 | 0 => 0 | 124 => 107 | 21 => 21 | 105 => 112 | 46 => 97 | 119 => 135 | 139 => 138 | 138 => 137 | n => n, fun | 3 => 3 | 4 => 4 | n => n⟩
theorem Tryz.l160 : Go.Proofs.Lays.n160 Tryz.prog Tryz.l160_ren := {
  mixed := by kernel_rfl
  f119 := Tryz.func105.trans (congrArg some (by kernel_rfl))
  f120 := Tryz.func98.trans (congrArg some (by kernel_rfl))
  f137 := Tryz.func52.trans (congrArg some (by kernel_rfl))
  f151 := Tryz.func84.trans (congrArg some (by kernel_rfl))
  f152 := Tryz.func97.trans (congrArg some (by kernel_rfl))
  f160 := Tryz.func57.trans (congrArg some (by kernel_rfl))
  f197 := Tryz.func83.trans (congrArg some (by kernel_rfl))
  f217 := Tryz.func67.trans (congrArg some (by kernel_rfl))
  f224 := Tryz.func94.trans (congrArg some (by kernel_rfl))
  f225 := Tryz.func93.trans (congrArg some (by kernel_rfl))
  f227 := Tryz.func71.trans (congrArg some (by kernel_rfl))
  f228 := Tryz.func82.trans (congrArg some (by kernel_rfl))
  f231 := Tryz.func69.trans (congrArg some (by kernel_rfl))
  f232 := Tryz.func70.trans (congrArg some (by kernel_rfl))
  f233 := Tryz.func72.trans (congrArg some (by kernel_rfl))
  f234 := Tryz.func73.trans (congrArg some (by kernel_rfl))
  f235 := Tryz.func74.trans (congrArg some (by kernel_rfl))
  f236 := Tryz.func75.trans (congrArg some (by kernel_rfl))
  f260 := Tryz.func96.trans (congrArg some (by kernel_rfl))
  f266 := Tryz.func81.trans (congrArg some (by kernel_rfl))
  f271 := Tryz.func85.trans (congrArg some (by kernel_rfl))
  t0 := Tryz.underlying0
  a0 := Tryz.isAgg0
  z0 := Tryz.sizeOf0
  v0 := Tryz.zeroValue0
  t3 := Tryz.underlying3
  a3 := Tryz.isAgg3
  z3 := Tryz.sizeOf3
  v3 := Tryz.zeroValue3
  t4 := Tryz.underlying4
  a4 := Tryz.isAgg4
  z4 := Tryz.sizeOf4
  v4 := Tryz.zeroValue4
  t5 := Tryz.underlying5
  a5 := Tryz.isAgg5
  z5 := Tryz.sizeOf5
  v5 := Tryz.zeroValue5
  t9 := Tryz.underlying9
  a9 := Tryz.isAgg9
  z9 := Tryz.sizeOf9
  v9 := Tryz.zeroValue9
  t21 := Tryz.underlying21
  a21 := Tryz.isAgg21
  z21 := Tryz.sizeOf21
  v21 := Tryz.zeroValue21
  t46 := Tryz.underlying97
  a46 := Tryz.isAgg97
  z46 := Tryz.sizeOf97
  v46 := Tryz.zeroValue97
  t105 := Tryz.underlying112
  a105 := Tryz.isAgg112
  z105 := Tryz.sizeOf112
  v105 := Tryz.zeroValue112
  t116 := Tryz.underlying103
  a116 := Tryz.isAgg103
  z116 := Tryz.sizeOf103
  t117 := Tryz.underlying104
  a117 := Tryz.isAgg104
  z117 := Tryz.sizeOf104
  v117 := Tryz.zeroValue104
  t119 := Tryz.underlying135
  a119 := Tryz.isAgg135
  z119 := Tryz.sizeOf135
  t124 := Tryz.underlying107
  a124 := Tryz.isAgg107
  z124 := Tryz.sizeOf107
  v124 := Tryz.zeroValue107
  t138 := Tryz.underlying137
  a138 := Tryz.isAgg137
  z138 := Tryz.sizeOf137
  v138 := Tryz.zeroValue137
  t139 := Tryz.underlying138
  a139 := Tryz.isAgg138
  z139 := Tryz.sizeOf138
  v139 := Tryz.zeroValue138
  g3 := by kernel_rfl
  g4 := by kernel_rfl }
def Tryz.c172_ren : Go.Shelf.Ren := ⟨fun | 172 => 58 | 244 => 76 | 245 => 77 | 247 => 86 | 279 => 87 | 280 => 88 | 281 => 89 | 282 => 90 | 287 => 99 | 316 => 100 | 171 => 78 | 205 => 101 | 321 => 106 | 322 => 107 | 243 => 91 | 246 => 102 | 283 => 108 | 284 => 109 | 285 => 110 | 286 => 111 | 129 => 113 | 317 => 112 | 318 => 114 | 319 => 115 | 320 => 116 | 337 => 117 | 338 => 118 | n => n, fun | 9 => 9 | 3 => 3 | 75 => 54 | 76 => 55 | 4 => 4 | 5 => 5 | 167 => 115 | 37 => 49 | 0 => 0 | 85 => 116 | 2 => 2 | 168 => 118 | 53 => 123 | 175 => 124 | 46 => 97 | 210 => 128 | 127 => 86 | 145 => 143 | 143 => 141 | 21 => 21 | 171 => 144 | 173 => 147 | 212 => 149 | 51 => 132 | 20 => 20 | 213 => 150 | 232 => 154 | 233 => 155 | 80 => 57 | n => n, fun | 15 => 1 | 16 => 2 | 17 => 5 | 18 => 6 | 19 => 7 | n => n⟩
theorem Tryz.c172 : Go.Proofs.LaysC.n172 Tryz.prog Tryz.c172_ren := {
  mixed := by kernel_rfl
  f129 := Tryz.func113.trans (congrArg some (by kernel_rfl))
  f171 := Tryz.func78.trans (congrArg some (by kernel_rfl))
  f172 := Tryz.func58.trans (congrArg some (by kernel_rfl))
  f205 := Tryz.func101.trans (congrArg some (by kernel_rfl))
  f243 := Tryz.func91.trans (congrArg some (by kernel_rfl))
  f244 := Tryz.func76.trans (congrArg some (by kernel_rfl))
  f245 := Tryz.func77.trans (congrArg some (by kernel_rfl))
  f246 := Tryz.func102.trans (congrArg some (by kernel_rfl))
  f247 := Tryz.func86.trans (congrArg some (by kernel_rfl))
  f279 := Tryz.func87.trans (congrArg some (by kernel_rfl))
  f280 := Tryz.func88.trans (congrArg some (by kernel_rfl))
  f281 := Tryz.func89.trans (congrArg some (by kernel_rfl))
  f282 := Tryz.func90.trans (congrArg some (by kernel_rfl))
  f283 := Tryz.func108.trans (congrArg some (by kernel_rfl))
  f284 := Tryz.func109.trans (congrArg some (by kernel_rfl))
  f285 := Tryz.func110.trans (congrArg some (by kernel_rfl))
  f286 := Tryz.func111.trans (congrArg some (by kernel_rfl))
  f287 := Tryz.func99.trans (congrArg some (by kernel_rfl))
  f316 := Tryz.func100.trans (congrArg some (by kernel_rfl))
  f317 := Tryz.func112.trans (congrArg some (by kernel_rfl))
  f318 := Tryz.func114.trans (congrArg some (by kernel_rfl))
  f319 := Tryz.func115.trans (congrArg some (by kernel_rfl))
  f320 := Tryz.func116.trans (congrArg some (by kernel_rfl))
  f321 := Tryz.func106.trans (congrArg some (by kernel_rfl))
  f322 := Tryz.func107.trans (congrArg some (by kernel_rfl))
  f337 := Tryz.func117.trans (congrArg some (by kernel_rfl))
  f338 := Tryz.func118.trans (congrArg some (by kernel_rfl))
  t0 := Tryz.underlying0
  a0 := Tryz.isAgg0
  z0 := Tryz.sizeOf0
  v0 := Tryz.zeroValue0
  t2 := Tryz.underlying2
  a2 := Tryz.isAgg2
  z2 := Tryz.sizeOf2
  v2 := Tryz.zeroValue2
  t3 := Tryz.underlying3
  a3 := Tryz.isAgg3
  z3 := Tryz.sizeOf3
  v3 := Tryz.zeroValue3
  t4 := Tryz.underlying4
  a4 := Tryz.isAgg4
  z4 := Tryz.sizeOf4
  v4 := Tryz.zeroValue4
  t5 := Tryz.underlying5
  a5 := Tryz.isAgg5
  z5 := Tryz.sizeOf5
  v5 := Tryz.zeroValue5
  t9 := Tryz.underlying9
  a9 := Tryz.isAgg9
  z9 := Tryz.sizeOf9
  v9 := Tryz.zeroValue9
  t20 := Tryz.underlying20
  a20 := Tryz.isAgg20
  z20 := Tryz.sizeOf20
  v20 := Tryz.zeroValue20
  t21 := Tryz.underlying21
  a21 := Tryz.isAgg21
  z21 := Tryz.sizeOf21
  v21 := Tryz.zeroValue21
  t37 := Tryz.underlying49
  a37 := Tryz.isAgg49
  z37 := Tryz.sizeOf49
  v37 := Tryz.zeroValue49
  t46 := Tryz.underlying97
  a46 := Tryz.isAgg97
  z46 := Tryz.sizeOf97
  v46 := Tryz.zeroValue97
  t51 := Tryz.underlying132
  a51 := Tryz.isAgg132
  z51 := Tryz.sizeOf132
  v51 := Tryz.zeroValue132
  t53 := Tryz.underlying123
  a53 := Tryz.isAgg123
  z53 := Tryz.sizeOf123
  v53 := Tryz.zeroValue123
  t75 := Tryz.underlying54
  a75 := Tryz.isAgg54
  z75 := Tryz.sizeOf54
  v75 := Tryz.zeroValue54
  t76 := Tryz.underlying55
  a76 := Tryz.isAgg55
  z76 := Tryz.sizeOf55
  v76 := Tryz.zeroValue55
  t85 := Tryz.underlying116
  a85 := Tryz.isAgg116
  z85 := Tryz.sizeOf116
  v85 := Tryz.zeroValue116
  t127 := Tryz.underlying86
  a127 := Tryz.isAgg86
  z127 := Tryz.sizeOf86
  v127 := Tryz.zeroValue86
  t143 := Tryz.underlying141
  a143 := Tryz.isAgg141
  z143 := Tryz.sizeOf141
  v143 := Tryz.zeroValue141
  t145 := Tryz.underlying143
  a145 := Tryz.isAgg143
  z145 := Tryz.sizeOf143
  v145 := Tryz.zeroValue143
  t167 := Tryz.underlying115
  a167 := Tryz.isAgg115
  z167 := Tryz.sizeOf115
  v167 := Tryz.zeroValue115
  t168 := Tryz.underlying118
  a168 := Tryz.isAgg118
  z168 := Tryz.sizeOf118
  v168 := Tryz.zeroValue118
  t171 := Tryz.underlying144
  a171 := Tryz.isAgg144
  z171 := Tryz.sizeOf144
  v171 := Tryz.zeroValue144
  t173 := Tryz.underlying147
  a173 := Tryz.isAgg147
  z173 := Tryz.sizeOf147
  v173 := Tryz.zeroValue147
  t175 := Tryz.underlying124
  a175 := Tryz.isAgg124
  z175 := Tryz.sizeOf124
  v175 := Tryz.zeroValue124
  t210 := Tryz.underlying128
  a210 := Tryz.isAgg128
  z210 := Tryz.sizeOf128
  v210 := Tryz.zeroValue128
  t212 := Tryz.underlying149
  a212 := Tryz.isAgg149
  z212 := Tryz.sizeOf149
  v212 := Tryz.zeroValue149
  t213 := Tryz.underlying150
  a213 := Tryz.isAgg150
  z213 := Tryz.sizeOf150
  t232 := Tryz.underlying154
  a232 := Tryz.isAgg154
  z232 := Tryz.sizeOf154
  v232 := Tryz.zeroValue154
  t233 := Tryz.underlying155
  a233 := Tryz.isAgg155
  z233 := Tryz.sizeOf155
  v233 := Tryz.zeroValue155
  g15 := by kernel_rfl
  g16 := by kernel_rfl
  g17 := by kernel_rfl
  g18 := by kernel_rfl
  g19 := by kernel_rfl
  t80 := Tryz.underlying57
  a80 := Tryz.isAgg57
  z80 := Tryz.sizeOf57
  v80 := Tryz.zeroValue57
  i0 := by kernel_rfl
  i2 := by kernel_rfl
  i3 := by kernel_rfl
  i4 := by kernel_rfl
  i5 := by kernel_rfl
  i9 := by kernel_rfl
  i20 := by kernel_rfl
  i21 := by kernel_rfl
  i37 := by kernel_rfl
  i46 := by kernel_rfl
  i51 := by kernel_rfl
  i53 := by kernel_rfl
  i75 := by kernel_rfl
  i76 := by kernel_rfl
  i80 := by kernel_rfl
  i85 := by kernel_rfl
  i127 := by kernel_rfl
  i143 := by kernel_rfl
  i145 := by kernel_rfl
  i167 := by kernel_rfl
  i168 := by kernel_rfl
  i171 := by kernel_rfl
  i173 := by kernel_rfl
  i175 := by kernel_rfl
  i210 := by kernel_rfl
  i212 := by kernel_rfl
  i232 := by kernel_rfl
  i233 := by kernel_rfl
  m15 := by kernel_rfl
  m16 := by kernel_rfl
  m17 := by kernel_rfl
  m18 := by kernel_rfl
  m19 := by kernel_rfl
  c0 := by kernel_rfl
  c2 := by kernel_rfl
  c3 := by kernel_rfl
  c4 := by kernel_rfl
  c5 := by kernel_rfl
  c9 := by kernel_rfl
  c20 := by kernel_rfl
  c21 := by kernel_rfl
  c37 := by kernel_rfl
  c46 := by kernel_rfl
  c51 := by kernel_rfl
  c53 := by kernel_rfl
  c75 := by kernel_rfl
  c76 := by kernel_rfl
  c80 := by kernel_rfl
  c85 := by kernel_rfl
  c127 := by kernel_rfl
  c143 := by kernel_rfl
  c145 := by kernel_rfl
  c167 := by kernel_rfl
  c168 := by kernel_rfl
  c171 := by kernel_rfl
  c173 := by kernel_rfl
  c175 := by kernel_rfl
  c210 := by kernel_rfl
  c212 := by kernel_rfl
  c213 := by kernel_rfl
  c232 := by kernel_rfl
  c233 := by kernel_rfl }

theorem hasPrefix_any (s p : ByteArray) (w : World) (r : Bool) (hr : Lib.hasPrefix s.data.toList p.data.toList = r) :
    Calls Tryz.prog 51 #[.string s, .string p] w fun e w' => e = .returned (.bool r) ∧ w = w' := by
  have h := Any.strings_HasPrefix Tryz.l99 s p w
  change Calls Tryz.prog 51 _ _ _ at h
  rw [hr] at h
  exact h.mono fun _ _ ⟨h1, h2⟩ => ⟨h1, h2.symm⟩
theorem trimPrefix_body (l : List UInt8) : Lib.trimPrefix l [45] = Plain.body l := by
  unfold Lib.trimPrefix Lib.hasPrefix Plain.body Plain.negB
  cases l with
  | nil => rfl
  | cons c r =>
    by_cases h : c = 45
    · subst h; simp
    · have h2 : ¬ (45 : UInt8) = c := fun e => h e.symm
      simp [List.isPrefixOf, h, h2]
theorem trimPrefix_any (s : ByteArray) (w : World) (D : ByteArray) (hD : (⟨(Plain.body s.data.toList).toArray⟩ : ByteArray) = D) :
    Calls Tryz.prog 56 #[.string s, .string ⟨#[45]⟩] w fun e w' => e = .returned (.string D) ∧ w = w' := by
  have h := Any.strings_TrimPrefix Tryz.l101 s ⟨#[45]⟩ w
  change Calls Tryz.prog 56 _ _ _ at h
  rw [show (⟨#[45]⟩ : ByteArray).data.toList = [45] from rfl, trimPrefix_body, hD] at h
  exact h.mono fun _ _ ⟨h1, h2⟩ => ⟨h1, h2.symm⟩
theorem trim_any (s : ByteArray) (w : World) (hs : s.size ≤ 1000000) (R : ByteArray) (hR : (⟨(Lib.trimS s.data.toList Plain.digits).toArray⟩ : ByteArray) = R) :
    Calls Tryz.prog 57 #[.string s, .string ⟨#[48, 49, 50, 51, 52, 53, 54, 55, 56, 57]⟩] w fun e w' => e = .returned (.string R) ∧ Below w.heap.size w w' := by
  have h := Any.strings_Trim_laid Tryz.l160 (by kernel_rfl) s ⟨#[48, 49, 50, 51, 52, 53, 54, 55, 56, 57]⟩ w (by omega) (by decide) (ascii_of_all (by decide))
  change Calls Tryz.prog 57 _ _ _ at h
  rw [show (⟨#[48, 49, 50, 51, 52, 53, 54, 55, 56, 57]⟩ : ByteArray).data.toList = Plain.digits from rfl, hR] at h
  exact h
theorem atoi_ok (s : ByteArray) (w : World) (hs : s.size ≤ 1000000) (hb : Plain.badB s.data.toList = false) (v : Int) (hv : Plain.numV s.data.toList = v) (h1 : -9223372036854775808 ≤ v) (h2 : v < 9223372036854775808) :
    Calls Tryz.prog 58 #[.string s] w fun e w' => e = .returned (.tuple #[.int .i64 v, .nilIface]) ∧ Below w.heap.size w w' := by
  have e := Plain.atoi_of hb
  rw [hv, if_pos ⟨h1, h2⟩] at e
  have h := Any.strconv_Atoi_ok Tryz.c172 s (by omega) v e w
  change Calls Tryz.prog 58 _ _ _ at h
  refine h.mono fun _ _ ⟨h1, h2⟩ => ⟨h1, ?_⟩
  rcases h2 with rfl | ⟨t, rfl⟩
  · exact Below.refl _ _
  · exact Lib.bytesWorld_below _ _ _
theorem atoi_range (s : ByteArray) (w : World) (hs : s.size ≤ 1000000) (hb : Plain.badB s.data.toList = false) (v : Int) (hv : Plain.numV s.data.toList = v) (h1 : ¬ (-9223372036854775808 ≤ v ∧ v < 9223372036854775808))
    (te : TypeId) (pe : Value) (hE : w.cell? ⟨2, 0, none⟩ = some (.iface te pe)) :
    Calls Tryz.prog 58 #[.string s] w fun e w' => ∃ z t p, e = .returned (.tuple #[.int .i64 z, .iface t p]) ∧ Below w.heap.size w w' := by
  have e := Plain.atoi_of hb
  rw [hv, if_neg h1] at e
  have h := Any.strconv_Atoi_range Tryz.c172 s (by omega) e _ w hE (Or.inr ⟨te, pe, rfl⟩)
  change Calls Tryz.prog 58 _ _ _ at h
  exact h.mono fun _ _ ⟨N, h1, _, _, h2⟩ => ⟨_, _, _, h1, h2⟩
end Go.Proofs.YteeekdffbcbamaaGreatDoor
/-
  LIBRARY CONTRACTS laid for this seat: strconv.Itoa, strings.Join; the package variables that a world holds.
-/
namespace Go.Proofs.YteeekdffbcbamaaGreatDoor
open Go.Shelf Go.RowKit Go.Lib
def Tryz.m171_ren : Go.Shelf.Ren := ⟨fun | 171 => 78 | 243 => 91 | 246 => 102 | 283 => 108 | 284 => 109 | 285 => 110 | 286 => 111 | 129 => 113 | 317 => 112 | 318 => 114 | 319 => 115 | 320 => 116 | 337 => 117 | 338 => 118 | n => n, fun | 3 => 3 | 9 => 9 | 2 => 2 | 4 => 4 | 171 => 144 | 0 => 0 | 53 => 123 | 37 => 49 | 5 => 5 | 173 => 147 | 212 => 149 | 51 => 132 | 20 => 20 | 213 => 150 | 46 => 97 | 232 => 154 | 233 => 155 | n => n, fun | 17 => 5 | 18 => 6 | 19 => 7 | n => n⟩
theorem Tryz.m171 : Go.Proofs.LaysM.n171 Tryz.prog Tryz.m171_ren := {
  mixed := by kernel_rfl
  f129 := Tryz.func113.trans (congrArg some (by kernel_rfl))
  f171 := Tryz.func78.trans (congrArg some (by kernel_rfl))
  f243 := Tryz.func91.trans (congrArg some (by kernel_rfl))
  f246 := Tryz.func102.trans (congrArg some (by kernel_rfl))
  f283 := Tryz.func108.trans (congrArg some (by kernel_rfl))
  f284 := Tryz.func109.trans (congrArg some (by kernel_rfl))
  f285 := Tryz.func110.trans (congrArg some (by kernel_rfl))
  f286 := Tryz.func111.trans (congrArg some (by kernel_rfl))
  f317 := Tryz.func112.trans (congrArg some (by kernel_rfl))
  f318 := Tryz.func114.trans (congrArg some (by kernel_rfl))
  f319 := Tryz.func115.trans (congrArg some (by kernel_rfl))
  f320 := Tryz.func116.trans (congrArg some (by kernel_rfl))
  f337 := Tryz.func117.trans (congrArg some (by kernel_rfl))
  f338 := Tryz.func118.trans (congrArg some (by kernel_rfl))
  t0 := Tryz.underlying0
  a0 := Tryz.isAgg0
  z0 := Tryz.sizeOf0
  v0 := Tryz.zeroValue0
  t2 := Tryz.underlying2
  a2 := Tryz.isAgg2
  z2 := Tryz.sizeOf2
  v2 := Tryz.zeroValue2
  t3 := Tryz.underlying3
  a3 := Tryz.isAgg3
  z3 := Tryz.sizeOf3
  v3 := Tryz.zeroValue3
  t4 := Tryz.underlying4
  a4 := Tryz.isAgg4
  z4 := Tryz.sizeOf4
  v4 := Tryz.zeroValue4
  t5 := Tryz.underlying5
  a5 := Tryz.isAgg5
  z5 := Tryz.sizeOf5
  v5 := Tryz.zeroValue5
  t9 := Tryz.underlying9
  a9 := Tryz.isAgg9
  z9 := Tryz.sizeOf9
  v9 := Tryz.zeroValue9
  t20 := Tryz.underlying20
  a20 := Tryz.isAgg20
  z20 := Tryz.sizeOf20
  v20 := Tryz.zeroValue20
  t37 := Tryz.underlying49
  a37 := Tryz.isAgg49
  z37 := Tryz.sizeOf49
  v37 := Tryz.zeroValue49
  t46 := Tryz.underlying97
  a46 := Tryz.isAgg97
  z46 := Tryz.sizeOf97
  v46 := Tryz.zeroValue97
  t51 := Tryz.underlying132
  a51 := Tryz.isAgg132
  z51 := Tryz.sizeOf132
  v51 := Tryz.zeroValue132
  t53 := Tryz.underlying123
  a53 := Tryz.isAgg123
  z53 := Tryz.sizeOf123
  v53 := Tryz.zeroValue123
  t171 := Tryz.underlying144
  a171 := Tryz.isAgg144
  z171 := Tryz.sizeOf144
  v171 := Tryz.zeroValue144
  t173 := Tryz.underlying147
  a173 := Tryz.isAgg147
  z173 := Tryz.sizeOf147
  v173 := Tryz.zeroValue147
  t212 := Tryz.underlying149
  a212 := Tryz.isAgg149
  z212 := Tryz.sizeOf149
  v212 := Tryz.zeroValue149
  t213 := Tryz.underlying150
  a213 := Tryz.isAgg150
  z213 := Tryz.sizeOf150
  t232 := Tryz.underlying154
  a232 := Tryz.isAgg154
  z232 := Tryz.sizeOf154
  v232 := Tryz.zeroValue154
  t233 := Tryz.underlying155
  a233 := Tryz.isAgg155
  z233 := Tryz.sizeOf155
  v233 := Tryz.zeroValue155
  g17 := by kernel_rfl
  g18 := by kernel_rfl
  g19 := by kernel_rfl
  i0 := by kernel_rfl
  i2 := by kernel_rfl
  i3 := by kernel_rfl
  i4 := by kernel_rfl
  i5 := by kernel_rfl
  i9 := by kernel_rfl
  i20 := by kernel_rfl
  i37 := by kernel_rfl
  i46 := by kernel_rfl
  i51 := by kernel_rfl
  i53 := by kernel_rfl
  i171 := by kernel_rfl
  i173 := by kernel_rfl
  i212 := by kernel_rfl
  i232 := by kernel_rfl
  i233 := by kernel_rfl
  m17 := by kernel_rfl
  m18 := by kernel_rfl
  m19 := by kernel_rfl }
def Tryz.l156_ren : Go.Shelf.Ren := ⟨fun | 156 => 62 | 165 => 79 | 166 => 26 | 169 => 27 | 240 => 48 | 241 => 92 | 276 => 64 | 277 => 103 | n => n, fun | 31 => 25 | 9 => 9 | 3 => 3 | 4 => 4 | 0 => 0 | 20 => 20 | 72 => 52 | 76 => 55 | 70 => 50 | 37 => 49 | 75 => 54 | 127 => 86 | 164 => 99 | 5 => 5 | 80 => 57 | n => n, fun | n => n⟩
theorem Tryz.l156 : Go.Proofs.Lays.n156 Tryz.prog Tryz.l156_ren := {
  mixed := by kernel_rfl
  f156 := Tryz.func62.trans (congrArg some (by kernel_rfl))
  f165 := Tryz.func79.trans (congrArg some (by kernel_rfl))
  f166 := Tryz.func26.trans (congrArg some (by kernel_rfl))
  f169 := Tryz.func27.trans (congrArg some (by kernel_rfl))
  f240 := Tryz.func48.trans (congrArg some (by kernel_rfl))
  f241 := Tryz.func92.trans (congrArg some (by kernel_rfl))
  f276 := Tryz.func64.trans (congrArg some (by kernel_rfl))
  f277 := Tryz.func103.trans (congrArg some (by kernel_rfl))
  t0 := Tryz.underlying0
  a0 := Tryz.isAgg0
  z0 := Tryz.sizeOf0
  v0 := Tryz.zeroValue0
  t3 := Tryz.underlying3
  a3 := Tryz.isAgg3
  z3 := Tryz.sizeOf3
  v3 := Tryz.zeroValue3
  t4 := Tryz.underlying4
  a4 := Tryz.isAgg4
  z4 := Tryz.sizeOf4
  v4 := Tryz.zeroValue4
  t9 := Tryz.underlying9
  a9 := Tryz.isAgg9
  z9 := Tryz.sizeOf9
  v9 := Tryz.zeroValue9
  t20 := Tryz.underlying20
  a20 := Tryz.isAgg20
  z20 := Tryz.sizeOf20
  v20 := Tryz.zeroValue20
  t31 := Tryz.underlying25
  a31 := Tryz.isAgg25
  z31 := Tryz.sizeOf25
  v31 := Tryz.zeroValue25
  t37 := Tryz.underlying49
  a37 := Tryz.isAgg49
  z37 := Tryz.sizeOf49
  v37 := Tryz.zeroValue49
  t70 := Tryz.underlying50
  a70 := Tryz.isAgg50
  z70 := Tryz.sizeOf50
  v70 := Tryz.zeroValue50
  t72 := Tryz.underlying52
  a72 := Tryz.isAgg52
  z72 := Tryz.sizeOf52
  v72 := Tryz.zeroValue52
  t75 := Tryz.underlying54
  a75 := Tryz.isAgg54
  z75 := Tryz.sizeOf54
  v75 := Tryz.zeroValue54
  t76 := Tryz.underlying55
  a76 := Tryz.isAgg55
  z76 := Tryz.sizeOf55
  v76 := Tryz.zeroValue55
  t127 := Tryz.underlying86
  a127 := Tryz.isAgg86
  z127 := Tryz.sizeOf86
  v127 := Tryz.zeroValue86
  t164 := Tryz.underlying99
  a164 := Tryz.isAgg99
  z164 := Tryz.sizeOf99
  v164 := Tryz.zeroValue99 }
theorem extra156 : Builder.Extra Tryz.prog Tryz.l156_ren where
  sizeBuilder := by kernel_rfl
  liesBuilder := by kernel_rfl
  t5 := Tryz.underlying5
  a5 := Tryz.isAgg5
  z5 := Tryz.sizeOf5
  v5 := Tryz.zeroValue5
  infoByte := by kernel_rfl
  cellsByte := by kernel_rfl
  sizeByte := by kernel_rfl
  neB5 := by decide

/-- The package variables that the calls read. -/
def Env (w : World) : Prop :=
  8 ≤ w.heap.size ∧ Lib.TabIs Tryz.prog w "internal/strconv.uint64pow10" .u64 Lib.pow10Tab ∧ ∃ te pe, w.cell? ⟨2, 0, none⟩ = some (.iface te pe)
theorem tab_at : Tryz.prog.globalNamed "internal/strconv.uint64pow10" = some 5 := by kernel_rfl
theorem Env.below {B : Nat} {w w' : World} (h : Env w) (hb : Below B w w') (hB : 8 ≤ B) : Env w' := by
  obtain ⟨h1, h2, te, pe, h3⟩ := h
  refine ⟨Nat.le_trans h1 hb.size, ?_, te, pe, (hb.cell (p := ⟨2, 0, none⟩) (by show 2 < B; omega)).trans h3⟩
  unfold Lib.TabIs World.var? at h2 ⊢
  rw [tab_at] at h2 ⊢
  simp only [Option.bind_some] at h2 ⊢
  rw [hb.block 5 (by omega)]
  exact h2
/-- A number's decimal text. -/
def itoaB (n : Int) : ByteArray := ⟨(Lib.itoa n).toArray⟩
theorem itoaB_size (n : Int) (h0 : -9223372036854775808 ≤ n) (h1 : n ≤ 9223372036854775807) : (itoaB n).size ≤ 21 := by
  have := Lib.itoa_length_le n h0 h1
  show (Lib.itoa n).toArray.size ≤ 21
  simpa using this
theorem itoa_any (n : Int) (h0 : -9223372036854775808 ≤ n) (h1 : n ≤ 9223372036854775807) (w : World) (he : Env w) :
    Calls Tryz.prog 78 #[.int .i64 n] w fun e w' => e = .returned (.string (itoaB n)) ∧ Below w.heap.size w w' := by
  have h := Any.strconv_Itoa Tryz.m171 n h0 h1 w he.2.1
  change Calls Tryz.prog 78 _ _ _ at h
  exact h.mono fun _ _ ⟨h1, k, os, h2⟩ => ⟨h1, h2 ▸ below_grow _ _ (Nat.le_refl _) _ _⟩
/-- Texts with a comma between them. -/
def joinB (xs : List ByteArray) : ByteArray := ⟨(Lib.join (xs.map (·.data.toList)) [44]).toArray⟩
theorem join_any (bk o c : Nat) (xs : List ByteArray) (w : World) (hcells : ∀ (j : Nat) x, xs[j]? = some x → w.cell? ⟨bk, o + j, none⟩ = some (.string x))
    (hbk : bk < w.heap.size) (hN : xs.length ≤ 1000) (hcap : xs.length ≤ c) (hlen : (Lib.join (xs.map (·.data.toList)) [44]).length ≤ 1000000) :
    Calls Tryz.prog 62 #[.slice (some ⟨bk, o, none⟩) xs.length c, .string ⟨#[44]⟩] w fun e w' => e = .returned (.string (joinB xs)) ∧ Below w.heap.size w w' := by
  have h := Any.strings_Join Tryz.l156 extra156 bk o c xs ⟨#[44]⟩ w hcells hbk (by omega) hcap (Nat.le_trans hlen (by omega))
  change Calls Tryz.prog 62 _ _ _ at h
  exact h
end Go.Proofs.YteeekdffbcbamaaGreatDoor
