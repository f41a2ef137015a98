/-
  LIBRARY CONTRACTS laid for this seat: strings.IndexByte; strings.Cut at a separator of one byte.
-/
import Derived.Test.YteeekdffbcbamaaDoorProg
import Derived.Shelf.Small.Strs
import Derived.Shelf.Strings.Search2
import Derived.Ground.NamesProg
import Derived.WalkKit
import Derived.Below
import Derived.Lib.Hide
import Derived.BigQuiet
import Derived.Deep.QuietTactic
import Derived.Outline
import Derived.Laws.BitsAllLaws
import Derived.Lib.AtoiAll
import Derived.Lib.SlTrimSet
import Derived.Shelf.Strings.Prefix
import Derived.Shelf.Strings.SlTrimAscii
import Derived.Shelf.Strconv.AtoiAll
import Derived.Shelf.Strconv.Itoa3
import Derived.Shelf.Strings.OnBuilder
import Derived.Lib.AppendIntMem
import Derived.Lib.ItoaLen
namespace Go.Proofs.YteeekdffbcbamaaDoor
open Go.Shelf Go.RowKit Go.Lib
def Tryd.l137_ren : Go.Shelf.Ren := ⟨fun | 137 => 32 | 217 => 44 | 266 => 61 | n => n, fun | 9 => 9 | 5 => 5 | 3 => 3 | n => n, fun | n => n⟩
theorem Tryd.l137 : Go.Proofs.Lays.n137 Tryd.prog Tryd.l137_ren := {
  mixed := by kernel_rfl
  f137 := Tryd.func32.trans (congrArg some (by kernel_rfl))
  f217 := Tryd.func44.trans (congrArg some (by kernel_rfl))
  f266 := Tryd.func61.trans (congrArg some (by kernel_rfl))
  t3 := Tryd.underlying3
  a3 := Tryd.isAgg3
  z3 := Tryd.sizeOf3
  v3 := Tryd.zeroValue3
  t5 := Tryd.underlying5
  a5 := Tryd.isAgg5
  z5 := Tryd.sizeOf5
  v5 := Tryd.zeroValue5
  t9 := Tryd.underlying9
  a9 := Tryd.isAgg9
  z9 := Tryd.sizeOf9
  v9 := Tryd.zeroValue9 }
def Tryd.l219_ren : Go.Shelf.Ren := ⟨fun | 219 => 60 | 217 => 44 | 225 => 74 | 224 => 75 | 267 => 76 | 266 => 61 | 314 => 86 | n => n, fun | 9 => 9 | 3 => 3 | 4 => 4 | 5 => 5 | 46 => 79 | 146 => 127 | 51 => 126 | n => n, fun | 1 => 0 | n => n⟩
theorem Tryd.l219 : Go.Proofs.Lays.n219 Tryd.prog Tryd.l219_ren := {
  mixed := by kernel_rfl
  f217 := Tryd.func44.trans (congrArg some (by kernel_rfl))
  f219 := Tryd.func60.trans (congrArg some (by kernel_rfl))
  f224 := Tryd.func75.trans (congrArg some (by kernel_rfl))
  f225 := Tryd.func74.trans (congrArg some (by kernel_rfl))
  f266 := Tryd.func61.trans (congrArg some (by kernel_rfl))
  f267 := Tryd.func76.trans (congrArg some (by kernel_rfl))
  f314 := Tryd.func86.trans (congrArg some (by kernel_rfl))
  t3 := Tryd.underlying3
  a3 := Tryd.isAgg3
  z3 := Tryd.sizeOf3
  v3 := Tryd.zeroValue3
  t4 := Tryd.underlying4
  a4 := Tryd.isAgg4
  z4 := Tryd.sizeOf4
  v4 := Tryd.zeroValue4
  t5 := Tryd.underlying5
  a5 := Tryd.isAgg5
  z5 := Tryd.sizeOf5
  v5 := Tryd.zeroValue5
  t9 := Tryd.underlying9
  a9 := Tryd.isAgg9
  z9 := Tryd.sizeOf9
  v9 := Tryd.zeroValue9
  t46 := Tryd.underlying79
  a46 := Tryd.isAgg79
  z46 := Tryd.sizeOf79
  v46 := Tryd.zeroValue79
  t51 := Tryd.underlying126
  a51 := Tryd.isAgg126
  z51 := Tryd.sizeOf126
  v51 := Tryd.zeroValue126
  t146 := Tryd.underlying127
  a146 := Tryd.isAgg127
  z146 := Tryd.sizeOf127
  v146 := Tryd.zeroValue127
  g1 := by kernel_rfl }

theorem indexByte_any (s : ByteArray) (c : Int) (w : World) :
    Calls Tryd.prog 32 #[.string s, .int .u8 c] w fun e w' => e = .returned (.int .i64 (Lib.indexByte s.data.toList c.toNat.toUInt8)) ∧ w = w' := by
  have h := Any.strings_IndexByte Tryd.l137 s c w
  change Calls Tryd.prog 32 _ _ _ at h
  exact h.mono fun _ _ ⟨h1, h2⟩ => ⟨h1, h2.symm⟩
theorem index_one (s : ByteArray) (c : UInt8) (w : World) :
    Calls Tryd.prog 60 #[.string s, .string ⟨#[c]⟩] w fun e w' => e = .returned (.int .i64 (Lib.indexByte s.data.toList c)) ∧ w = w' := by
  have h := Any.stringslite_Index_one Tryd.l219 s c w
  change Calls Tryd.prog 60 _ _ _ at h
  exact h.mono fun _ _ ⟨h1, h2⟩ => ⟨h1, h2.symm⟩

theorem icut_yes (s : ByteArray) (c : UInt8) (i : Nat) (w : World) (hs : s.size ≤ 1000000) (hi : Lib.indexByte s.data.toList c = i) (hlt : i < s.size) :
    Calls Tryd.prog 43 #[.string s, .string ⟨#[c]⟩] w fun e w' => e = .returned (.tuple #[.string (s.extract 0 i), .string (s.extract (i + 1) s.size), .bool true]) ∧ ∃ n, w' = w.drewN n := by
  have H := Lib.hid (fun W => by have := index_one s c W; rw [hi] at this; exact this)
  clear hi
  go_enter Tryd.func43, Tryd.ntmps43
  go_wp2_with fail
  refine (H.out _).mono ?_
  rintro e w1 ⟨rfl, rfl⟩
  go_wp2_with fail
  go_quiet (fail)
  go_wp2_with fail
  go_ret3
  exact ⟨rfl, _, rfl⟩
theorem icut_no (s : ByteArray) (c : UInt8) (w : World) (hi : Lib.indexByte s.data.toList c = -1) :
    Calls Tryd.prog 43 #[.string s, .string ⟨#[c]⟩] w fun e w' => e = .returned (.tuple #[.string s, .string ByteArray.empty, .bool false]) ∧ w = w' := by
  have H := Lib.hid (fun W => by have := index_one s c W; rw [hi] at this; exact this)
  clear hi
  go_enter Tryd.func43, Tryd.ntmps43
  go_wp2_with fail
  refine (H.out _).mono ?_
  rintro e w1 ⟨rfl, rfl⟩
  go_wp2_with fail
  go_ret3
  exact ⟨rfl, rfl⟩
theorem cut_yes (s : ByteArray) (c : UInt8) (i : Nat) (w : World) (hs : s.size ≤ 1000000) (hi : Lib.indexByte s.data.toList c = i) (hlt : i < s.size) :
    Calls Tryd.prog 30 #[.string s, .string ⟨#[c]⟩] w fun e w' => e = .returned (.tuple #[.string (s.extract 0 i), .string (s.extract (i + 1) s.size), .bool true]) ∧ ∃ n, w' = w.drewN n := by
  have H := Lib.hid (fun W => icut_yes s c i W hs hi hlt)
  clear hi
  go_enter Tryd.func30, Tryd.ntmps30
  go_wp2_with fail
  refine (H.out _).mono ?_
  rintro e w1 ⟨rfl, n, rfl⟩
  go_wp2_with fail
  go_ret3
  exact ⟨rfl, n, rfl⟩
theorem cut_no (s : ByteArray) (c : UInt8) (w : World) (hi : Lib.indexByte s.data.toList c = -1) :
    Calls Tryd.prog 30 #[.string s, .string ⟨#[c]⟩] w fun e w' => e = .returned (.tuple #[.string s, .string ByteArray.empty, .bool false]) ∧ ∃ n, w' = w.drewN n := by
  have H := Lib.hid (fun W => icut_no s c W hi)
  clear hi
  go_enter Tryd.func30, Tryd.ntmps30
  go_wp2_with fail
  refine (H.out _).mono ?_
  rintro e w1 ⟨rfl, rfl⟩
  go_wp2_with fail
  go_ret3
  exact ⟨rfl, 0, rfl⟩
end Go.Proofs.YteeekdffbcbamaaDoor
/-
  PLAIN LAWS of bytes: sums, the bytes of a text, decimal numbers. No program in sight.
-/
namespace Go.Proofs.YteeekdffbcbamaaDoor.Plain

/-- The exclusive or of bytes. -/
def sumN (l : List UInt8) : Nat := l.foldl (fun n c => n ^^^ c.toNat) 0
theorem sumN_snoc (l : List UInt8) (c : UInt8) : sumN (l ++ [c]) = sumN l ^^^ c.toNat := by simp [sumN, List.foldl_append]
theorem sumN_lt (l : List UInt8) : sumN l < 256 := by
  have : ∀ (l : List UInt8) (n : Nat), n < 256 → l.foldl (fun n c => n ^^^ c.toNat) n < 256 := by
    intro l
    induction l with
    | nil => intro n h; exact h
    | cons c cs ih => intro n h; exact ih _ (Nat.xor_lt_two_pow (n := 8) h c.toNat_lt)
  exact this l 0 (by decide)
theorem take_snoc (s : ByteArray) (k : Nat) (h : k < s.size) : s.data.toList.take (k + 1) = s.data.toList.take k ++ [s[k]] := by
  rw [List.take_succ_eq_append_getElem (by simpa using h)]; rfl
theorem len_size (s : ByteArray) : s.data.toList.length = s.size := by rw [Array.length_toList]; rfl
theorem take_all (s : ByteArray) : s.data.toList.take s.size = s.data.toList := List.take_of_length_le (Nat.le_of_eq (len_size s))
theorem sum_step (s : ByteArray) (k : Nat) (h : k < s.size) : sumN (s.data.toList.take (k + 1)) = sumN (s.data.toList.take k) ^^^ s[k].toNat := by rw [take_snoc s k h, sumN_snoc]
theorem xor_i64 (a b : Nat) (ha : a < 256) (hb : b < 256) : bits .xor .i64 (a : Int) (b : Int) = ((a ^^^ b : Nat) : Int) := by
  have hx : a ^^^ b < 2 ^ 8 := Nat.xor_lt_two_pow (by omega) (by omega)
  show IntKind.i64.wrap ((BitVec.ofInt 64 (a : Int) ^^^ BitVec.ofInt 64 (b : Int)).toNat : Int) = _
  rw [BitVec.toNat_xor, ofInt_u64 a (by omega), ofInt_u64 b (by omega)]
  generalize a ^^^ b = x at hx ⊢
  simp [IntKind.wrap, IntKind.bits, IntKind.signed]
  omega
/-- A byte that may stand in a text. -/
def fitB (c : UInt8) : Bool := decide (32 ≤ c.toNat) && decide (c.toNat ≤ 126) && !(c.toNat == 44 || c.toNat == 42 || c.toNat == 36)
def textE (l : List UInt8) : Int := if 80 < l.length then 4 else if l.all fitB then 0 else 3
theorem fit_all_step (s : ByteArray) (k : Nat) (h : k < s.size) : (s.data.toList.take (k + 1)).all fitB = ((s.data.toList.take k).all fitB && fitB s[k]) := by
  rw [take_snoc s k h, List.all_append]
  simp
theorem all_take_false (l : List UInt8) (k : Nat) (h : (l.take k).all fitB = false) : l.all fitB = false := by
  cases ha : l.all fitB
  · rfl
  · rw [List.all_eq_true] at ha
    rw [List.all_eq_false] at h
    obtain ⟨x, hx, hf⟩ := h
    exact absurd (ha x (List.mem_of_mem_take hx)) hf
end Go.Proofs.YteeekdffbcbamaaDoor.Plain
/-
  PLAIN LAWS of fields: how far a field goes, what is cut off it.
-/
namespace Go.Proofs.YteeekdffbcbamaaDoor.Plain

/-- How many bytes stand ahead of the first c. -/
def upto (l : List UInt8) (c : UInt8) : Nat := (l.takeWhile (fun x => x != c)).length
theorem upto_le (l : List UInt8) (c : UInt8) : upto l c ≤ l.length := (List.takeWhile_sublist _).length_le
theorem upto_cons (x : UInt8) (l : List UInt8) (c : UInt8) : upto (x :: l) c = if x = c then 0 else upto l c + 1 := by
  unfold upto
  by_cases h : x = c
  · simp [h]
  · simp [h]
theorem index_upto (l : List UInt8) (c : UInt8) : Lib.indexByte l c = if upto l c < l.length then (upto l c : Int) else -1 := by
  induction l with
  | nil => rfl
  | cons x xs ih =>
    have hle := upto_le xs c
    rw [upto_cons]
    unfold Lib.indexByte
    by_cases h : x = c
    · simp [h]
    · have hb : (x == c) = false := by simpa using h
      rw [ih, if_neg h]
      simp only [hb, Bool.false_eq_true, if_false]
      by_cases h2 : upto xs c < xs.length
      · have h3 : ((upto xs c : Int) == -1) = false := beq_eq_false_iff_ne.2 (by omega)
        have h4 : upto xs c + 1 < (x :: xs).length := by rw [List.length_cons]; omega
        simp only [if_pos h2, if_pos h4, h3, Bool.false_eq_true, if_false]
        omega
      · have h4 : ¬ upto xs c + 1 < (x :: xs).length := by rw [List.length_cons]; omega
        simp only [if_neg h2, if_neg h4]
        rfl
theorem extract_list (s : ByteArray) (a e : Nat) : (s.extract a e).data.toList = (s.data.toList.drop a).take (e - a) := Lib.extract_data s a e
theorem extract_size (s : ByteArray) (a e : Nat) (h : a ≤ e) (he : e ≤ s.size) : (s.extract a e).size = e - a := by
  rw [ByteArray.size_extract]; omega
/-- What stands behind the separator. -/
def restB (g : ByteArray) (n : Nat) : ByteArray := if n < g.size then g.extract (n + 1) g.size else ByteArray.empty
/-- The bytes of a field that begins at a. -/
def fldN (s : ByteArray) (a e : Nat) : Nat := upto ((s.data.toList.drop a).take (e - a)) 44
theorem fldN_le (s : ByteArray) (a e : Nat) (h : a ≤ e) (he : e ≤ s.size) : a + fldN s a e ≤ e := by
  have := upto_le ((s.data.toList.drop a).take (e - a)) 44
  rw [List.length_take, List.length_drop, len_size] at this
  unfold fldN
  omega
end Go.Proofs.YteeekdffbcbamaaDoor.Plain
/-
  PLAIN LAWS of numbers in a line.
-/
namespace Go.Proofs.YteeekdffbcbamaaDoor.Plain

def digB (c : UInt8) : Bool := decide (48 ≤ c.toNat) && decide (c.toNat ≤ 57)
def decV (acc : Nat) (l : List UInt8) : Nat := l.foldl (fun a c => a * 10 + (c.toNat - 48)) acc
def negB (l : List UInt8) : Bool := l.head? == some 45
/-- What stands behind a sign. -/
def body (l : List UInt8) : List UInt8 := if negB l then l.tail else l
def badB (l : List UInt8) : Bool := (body l).isEmpty || decide (19 < (body l).length) || ((body l).head? == some 48 && l != [48]) || !(body l).all digB
def numV (l : List UInt8) : Int := if negB l then -(decV 0 (body l) : Int) else decV 0 (body l)
/-- The error of a number from lo to hi. -/
def numE (l : List UInt8) (lo hi wrong : Int) : Int := if badB l then 11 else if numV l < lo then 2 else if hi < numV l then wrong else 0

theorem decV_ge (l : List UInt8) (acc : Nat) : acc ≤ decV acc l := by
  induction l generalizing acc with
  | nil => exact Nat.le_refl _
  | cons c r ih =>
    have := ih (acc * 10 + (c.toNat - 48))
    unfold decV at this ⊢
    simp only [List.foldl_cons]
    omega
theorem parse_dig (d : List UInt8) (acc : Nat) (ha : acc < 18446744073709551616) (h : d.all digB = true) :
    Lib.parseUint10 acc d = if decV acc d < 18446744073709551616 then .ok (decV acc d) else .range := by
  induction d generalizing acc with
  | nil => simp [Lib.parseUint10, decV, ha]
  | cons c r ih =>
    simp only [List.all_cons, Bool.and_eq_true] at h
    obtain ⟨hc, hr⟩ := h
    have hc' : 48 ≤ c.toNat ∧ c.toNat ≤ 57 := by simpa [digB] using hc
    have hge := decV_ge r (acc * 10 + (c.toNat - 48))
    have e : decV acc (c :: r) = decV (acc * 10 + (c.toNat - 48)) r := rfl
    rw [e]
    unfold Lib.parseUint10
    rw [if_pos hc']
    by_cases h1 : 1844674407370955162 ≤ acc
    · rw [if_pos h1, if_neg (by omega)]
    · rw [if_neg h1]
      by_cases h2 : 18446744073709551616 ≤ acc * 10 + (c.toNat - 48)
      · rw [if_pos h2, if_neg (by omega)]
      · rw [if_neg h2]
        exact ih _ (by omega) hr
theorem bad_parts {l : List UInt8} (h : badB l = false) : body l ≠ [] ∧ (body l).length ≤ 19 ∧ ((body l).head? = some 48 → l = [48]) ∧ (body l).all digB = true := by
  unfold badB at h
  simp only [Bool.or_eq_false_iff, Bool.and_eq_false_iff] at h
  obtain ⟨⟨⟨h1, h2⟩, h3⟩, h4⟩ := h
  refine ⟨?_, ?_, ?_, ?_⟩
  · intro e
    rw [e] at h1
    cases h1
  · simpa using h2
  · intro e
    rcases h3 with h3 | h3
    · rw [e] at h3
      simp at h3
    · simpa using h3
  · simpa using h4
theorem atoi_of {l : List UInt8} (h : badB l = false) : Lib.atoiAll l = if -9223372036854775808 ≤ numV l ∧ numV l < 9223372036854775808 then .ok (numV l) else .range := by
  obtain ⟨h1, _, _, h4⟩ := bad_parts h
  have hp := parse_dig (body l) 0 (by decide) h4
  unfold numV
  cases l with
  | nil => exact absurd rfl h1
  | cons c r =>
    by_cases hn : c = 45
    · have e1 : negB (c :: r) = true := by simp [negB, hn]
      have e2 : body (c :: r) = r := by simp [body, e1]
      rw [e2] at hp h1 h4
      rw [e1, e2]
      subst hn
      unfold Lib.atoiAll
      have e3 : Lib.parseMag r = Lib.parseUint10 0 r := by unfold Lib.parseMag; rw [if_neg h1]
      simp only [show (45 : UInt8).toNat = 45 from rfl, or_true, if_true, e3, hp]
      generalize decV 0 r = v
      by_cases h5 : v < 18446744073709551616
      · rw [if_pos h5]
        by_cases h6 : 9223372036854775808 < v
        · simp only [not_true_eq_false, false_and, if_false, true_and, if_pos h6]
          rw [if_neg (by omega)]
        · simp only [not_true_eq_false, false_and, if_false, true_and, if_neg h6]
          rw [if_pos (by omega)]
      · rw [if_neg h5]
        simp only
        rw [if_neg (by omega)]
    · have e1 : negB (c :: r) = false := by simp [negB, hn]
      have e2 : body (c :: r) = c :: r := by simp [body, e1]
      rw [e2] at hp h1 h4
      rw [e1, e2]
      have hc : 48 ≤ c.toNat ∧ c.toNat ≤ 57 := by
        simp only [List.all_cons, Bool.and_eq_true] at h4
        simpa [digB] using h4.1
      unfold Lib.atoiAll
      have e3 : Lib.parseMag (c :: r) = Lib.parseUint10 0 (c :: r) := by unfold Lib.parseMag; rw [if_neg h1]
      have e4 : ¬ (c.toNat = 43 ∨ c.toNat = 45) := by omega
      have e5 : ¬ c.toNat = 45 := by omega
      simp only [if_neg e4, e3, hp]
      generalize decV 0 (c :: r) = v
      by_cases h5 : v < 18446744073709551616
      · rw [if_pos h5]
        by_cases h6 : 9223372036854775808 ≤ v
        · simp only [e5, not_false_eq_true, true_and, if_pos h6, Bool.false_eq_true, if_false]
          rw [if_neg (by omega)]
        · simp only [e5, not_false_eq_true, true_and, if_neg h6, false_and, if_false, Bool.false_eq_true]
          rw [if_pos (by omega)]
      · rw [if_neg h5]
        simp only [Bool.false_eq_true, if_false]
        rw [if_neg (by omega)]

def digits : List UInt8 := [48, 49, 50, 51, 52, 53, 54, 55, 56, 57]
theorem digits_has (c : UInt8) : digits.contains c = digB c := by
  unfold digits digB
  rw [Bool.eq_iff_iff]
  simp only [List.contains_eq_mem, List.mem_cons, List.not_mem_nil, or_false, decide_eq_true_eq, Bool.and_eq_true, ← UInt8.toNat_inj]
  simp only [UInt8.reduceToNat]
  omega
theorem trim_empty (d : List UInt8) : Lib.trimS d digits = [] ↔ d.all digB = true := by
  have hf : (fun c => digits.contains c) = digB := funext digits_has
  unfold Lib.trimS Lib.trimLeftS Lib.trimRightS
  have e1 : ∀ l : List UInt8, l.dropWhile digB = [] ↔ l.all digB = true := by
    intro l
    induction l with
    | nil => simp
    | cons x xs ih => by_cases h : digB x = true <;> simp [h, ih]
  have e2 : ∀ l : List UInt8, (l.dropWhile digB).all digB = l.all digB := by
    intro l
    induction l with
    | nil => rfl
    | cons x xs ih =>
      by_cases h : digB x = true
      · simp only [List.dropWhile_cons, h, if_true, List.all_cons, Bool.true_and]
        exact ih
      · simp [h]
  rw [hf, e1, List.all_reverse, e2, List.all_reverse]
end Go.Proofs.YteeekdffbcbamaaDoor.Plain
/-
  WALKS: which texts are right (texted of package report; text of the reference).
-/
namespace Go.Proofs.YteeekdffbcbamaaDoor
open Go.RowKit

/-- The place of a byte among ',', '*', '$'. -/
def markI (c : UInt8) : Int := Lib.indexByte [44, 42, 36] c
theorem markI_lt (c : UInt8) (h : (c.toNat == 44 || c.toNat == 42 || c.toNat == 36) = false) : markI c = -1 := by
  simp at h
  have h1 : c ≠ 44 := fun e => h.1.1 (by rw [e]; rfl)
  have h2 : c ≠ 42 := fun e => h.1.2 (by rw [e]; rfl)
  have h3 : c ≠ 36 := fun e => h.2 (by rw [e]; rfl)
  simp [markI, Lib.indexByte, h1.symm, h2.symm, h3.symm]
theorem markI_ge (c : UInt8) (h : (c.toNat == 44 || c.toNat == 42 || c.toNat == 36) = true) : 0 ≤ markI c := by
  simp at h
  rcases h with (h | h) | h
  · obtain rfl : c = 44 := UInt8.toNat_inj.1 h; decide
  · obtain rfl : c = 42 := UInt8.toNat_inj.1 h; decide
  · obtain rfl : c = 36 := UInt8.toNat_inj.1 h; decide

set_option maxHeartbeats 1000000 in
theorem texted_any (s : ByteArray) (w : World) (hs : s.size ≤ 1000000) (r : Int) (hr : Plain.textE s.data.toList = r) :
    Calls Tryd.prog 21 #[.string s] w fun e w' => e = .returned (.int .i64 r) ∧ w = w' := by
  unfold Plain.textE at hr
  rw [Plain.len_size] at hr
  by_cases hb : 80 < s.size
  · rw [if_pos hb] at hr
    subst hr
    go_enter Tryd.func21, Tryd.ntmps21
    go_wp2_with fail
    go_ret
    exact ⟨rfl, rfl⟩
  · rw [if_neg hb] at hr
    have hb2 : s.size ≤ 80 := by omega
    clear hb
    have HR := Lib.hid hr; clear hr
    have HF := Lib.hid (Plain.take_all s)
    go_enter Tryd.func21, Tryd.ntmps21
    go_wp2_with fail
    go_loop [9] (fun i => ∃ k : Nat, k ≤ s.size ∧ i = .int .i64 k ∧ Hid ((s.data.toList.take k).all Plain.fitB = true)) (fun i => s.size - (intOf i).toNat)
    case atStart => exact ⟨0, Nat.zero_le _, rfl, Lib.hid rfl⟩
    case round =>
      obtain ⟨k, hk, rfl, hA⟩ := hrel
      by_cases hlt : k < s.size
      · have hst := Plain.fit_all_step s k hlt
        rw [hA.out, Bool.true_and] at hst
        have hbad := Plain.all_take_false s.data.toList (k + 1)
        have HI := Lib.hid (fun W => indexByte_any ⟨#[44, 42, 36]⟩ (s[k].toNat : Int) W)
        have hc2 : s[k].toNat < 256 := s[k].toNat_lt
        have hcv : ((s[k].toNat : Int)).toNat.toUInt8 = s[k] := by simp
        rw [hcv] at HI
        change Hid (∀ W, Calls Tryd.prog 32 _ W fun e w' => e = .returned (.int .i64 (markI s[k])) ∧ _) at HI
        clear hcv
        have hml := markI_lt s[k]
        have hmg := markI_ge s[k]
        have hfit : Plain.fitB s[k] = (decide (32 ≤ s[k].toNat) && decide (s[k].toNat ≤ 126) && !(s[k].toNat == 44 || s[k].toNat == 42 || s[k].toNat == 36)) := rfl
        rw [hfit] at hst
        clear hfit
        have hml2 : -1 ≤ markI s[k] := Lib.indexByte_ge _ _
        by_cases h1 : s[k].toNat < 32
        · have hr3 := HR.out
          rw [hbad (by rw [hst]; simp; omega)] at hr3
          simp at hr3
          subst hr3
          clear hst hbad hml hmg hml2 HI
          have h1' : (s[k].toNat : Int) < 32 := by omega
          go_wp2_with fail
          go_ret
          exact ⟨rfl, rfl⟩
        · by_cases h2 : 126 < s[k].toNat
          · have hr3 := HR.out
            rw [hbad (by rw [hst]; simp; omega)] at hr3
            simp at hr3
            subst hr3
            clear hst hbad hml hmg hml2 HI
            have h1' : (32 : Int) ≤ s[k].toNat := by omega
            have h2' : (126 : Int) < s[k].toNat := by omega
            go_wp2_with fail
            go_ret
            exact ⟨rfl, rfl⟩
          · have h1' : (32 : Int) ≤ s[k].toNat := by omega
            have h2' : (s[k].toNat : Int) ≤ 126 := by omega
            cases hm : (s[k].toNat == 44 || s[k].toNat == 42 || s[k].toNat == 36)
            · have hmi := hml hm
              rw [hmi] at HI
              have HS := Lib.hid (show (s.data.toList.take (k + 1)).all Plain.fitB = true by rw [hst, hm]; simp; omega)
              clear hst hbad hml hmg hml2 hmi hm
              go_wp2_with fail
              refine (HI.out _).mono ?_
              rintro e w1 ⟨rfl, rfl⟩
              go_wp2_with fail
              go_round
              case rel => exact ⟨k + 1, by omega, by go_num, HS⟩
              case measure => simp [intOf]; omega
            · have hmi := hmg hm
              have hr3 := HR.out
              rw [hbad (by rw [hst, hm]; simp)] at hr3
              simp at hr3
              subst hr3
              clear hst hbad hml hmg hml2 hm
              generalize markI s[k] = z at *
              go_wp2_with fail
              refine (HI.out _).mono ?_
              rintro e w1 ⟨rfl, rfl⟩
              go_wp2_with fail
              go_ret
              exact ⟨rfl, rfl⟩
      · obtain rfl : k = s.size := by omega
        have h := hA.out
        rw [HF.out] at h
        have hr3 := HR.out
        rw [h] at hr3
        simp at hr3
        subst hr3
        clear h
        go_wp2_with fail
        go_ret
        exact ⟨rfl, rfl⟩
end Go.Proofs.YteeekdffbcbamaaDoor
/-
  THE READER's BLOCK: the line, where it reads, where the fields end, whether there are more, the fault; then further cells. fail.
-/
namespace Go.Proofs.YteeekdffbcbamaaDoor
open Go.RowKit

def rd6 (s : ByteArray) (at' e : Nat) (more : Bool) (er ea : Int) : Array Value := #[.string s, .int .i64 at', .int .i64 e, .bool more, .int .i64 er, .int .i64 ea]
/-- The block b is a reader. -/
def Rd (w : World) (b : Nat) (T : TypeId) (s : ByteArray) (at' e : Nat) (more : Bool) (er ea : Int) (X : Array Value) : Prop :=
  w.heap[b]? = some (.cells (rd6 s at' e more er ea ++ X) T (0, 0))

section
variable {w w' : World} {b : Nat} {T : TypeId} {s : ByteArray} {at' e : Nat} {more : Bool} {er ea : Int} {X : Array Value}
theorem Rd.lt (h : Rd w b T s at' e more er ea X) : b < w.heap.size := by
  rcases Nat.lt_or_ge b w.heap.size with hlt | hge
  · exact hlt
  · unfold Rd at h
    rw [Array.getElem?_eq_none hge] at h
    cases h
theorem Rd.cells (h : Rd w b T s at' e more er ea X) : w.cell? ⟨b, 0, none⟩ = some (.string s) ∧ w.cell? ⟨b, 1, none⟩ = some (.int .i64 at') ∧ w.cell? ⟨b, 2, none⟩ = some (.int .i64 e) ∧ w.cell? ⟨b, 3, none⟩ = some (.bool more) ∧ w.cell? ⟨b, 4, none⟩ = some (.int .i64 er) ∧ w.cell? ⟨b, 5, none⟩ = some (.int .i64 ea) := by
  unfold Rd rd6 at h
  simp [World.cell?, h, Array.getElem?_append]
theorem Rd.x (h : Rd w b T s at' e more er ea X) (i : Nat) (v : Value) (hv : X[i]? = some v) : w.cell? ⟨b, 6 + i, none⟩ = some v := by
  unfold Rd rd6 at h
  simp [World.cell?, h, Array.getElem?_append, hv]
theorem Rd.frozen (h : Rd w b T s at' e more er ea X) (i : Nat) : w.frozen? ⟨b, i, none⟩ = false := by
  unfold Rd at h
  simp [World.frozen?, h]
theorem Rd.grown {row : Option Nat} (h : Rd w b T s at' e more er ea X) (hg : w.grownBy w' row) (hr : some b ≠ row) : Rd w' b T s at' e more er ea X := (hg.block b h.lt hr).trans h
theorem Rd.alloc (h : Rd w b T s at' e more er ea X) (o : Obj) : Rd (w.alloc o) b T s at' e more er ea X := (Below.heap_alloc w o b h.lt).trans h
theorem Rd.drewN (h : Rd w b T s at' e more er ea X) (n : Nat) : Rd (w.drewN n) b T s at' e more er ea X := h
theorem Rd.setAt (h : Rd w b T s at' e more er ea X) (a2 : Nat) : Rd (w.setCell ⟨b, 1, none⟩ (.int .i64 a2)) b T s a2 e more er ea X := by
  unfold Rd rd6 at h ⊢
  simp [World.setCell, Array.getElem?_modify, h, Array.setIfInBounds_append_left]
theorem Rd.setMore (h : Rd w b T s at' e more er ea X) (m2 : Bool) : Rd (w.setCell ⟨b, 3, none⟩ (.bool m2)) b T s at' e m2 er ea X := by
  unfold Rd rd6 at h ⊢
  simp [World.setCell, Array.getElem?_modify, h, Array.setIfInBounds_append_left]
theorem Rd.setErr (h : Rd w b T s at' e more er ea X) (c : Int) : Rd (w.setCell ⟨b, 4, none⟩ (.int .i64 c)) b T s at' e more c ea X := by
  unfold Rd rd6 at h ⊢
  simp [World.setCell, Array.getElem?_modify, h, Array.setIfInBounds_append_left]
theorem Rd.setEat (h : Rd w b T s at' e more er ea X) (c : Int) : Rd (w.setCell ⟨b, 5, none⟩ (.int .i64 c)) b T s at' e more er c X := by
  unfold Rd rd6 at h ⊢
  simp [World.setCell, Array.getElem?_modify, h, Array.setIfInBounds_append_left]
theorem Rd.setX (h : Rd w b T s at' e more er ea X) (i : Nat) (v : Value) : Rd (w.setCell ⟨b, 6 + i, none⟩ v) b T s at' e more er ea (X.setIfInBounds i v) := by
  unfold Rd rd6 at h ⊢
  simp [World.setCell, Array.getElem?_modify, h, Array.setIfInBounds_append_right]
end

theorem grown_refl (w : World) (row : Option Nat) : w.grownBy w row := ⟨rfl, rfl, rfl, Nat.le_refl _, fun _ _ _ => rfl⟩
theorem grown_trans {a b c : World} {row : Option Nat} (h : a.grownBy b row) (k : b.grownBy c row) : a.grownBy c row :=
  ⟨k.os.trans h.os, k.tape.trans h.tape, k.output.trans h.output, Nat.le_trans h.size k.size, fun i hi hr => (k.block i (Nat.lt_of_lt_of_le hi h.size) hr).trans (h.block i hi hr)⟩
theorem grown_drewN (w : World) (n : Nat) (row : Option Nat) : w.grownBy (w.drewN n) row := ⟨rfl, rfl, rfl, Nat.le_refl _, fun _ _ _ => rfl⟩
theorem grown_set (w : World) (b o : Nat) (v : Value) : w.grownBy (w.setCell ⟨b, o, none⟩ v) (some b) :=
  ⟨rfl, rfl, rfl, by simp [World.setCell], fun i _ hr => by
    have : b ≠ i := fun e => hr (by rw [e])
    simp [World.setCell, Array.getElem?_modify, this]⟩
theorem grown_none {a b : World} {row : Option Nat} (h : a.grownBy b none) : a.grownBy b row := ⟨h.os, h.tape, h.output, h.size, fun i hi _ => h.block i hi (by simp)⟩
theorem grown_below {w w' : World} (h : Below w.heap.size w w') : w.grownBy w' none := ⟨h.os, h.tape, h.output, h.size, fun i hi _ => h.block i hi⟩

namespace Plain
/-- The first fault stays. -/
def fe (er c : Int) : Int := if er = 0 then c else er
def fa (er ea z : Int) : Int := if er = 0 then z else ea
theorem fe_zero (c : Int) : fe 0 c = c := by simp [fe]
theorem fa_zero (ea z : Int) : fa 0 ea z = z := by simp [fa]
theorem fe_no {er c : Int} (h : er ≠ 0) : fe er c = er := by simp [fe, h]
theorem fa_no {er ea z : Int} (h : er ≠ 0) : fa er ea z = ea := by simp [fa, h]
end Plain

theorem fail_any (b T : Nat) (s : ByteArray) (at' e : Nat) (more : Bool) (er ea c z : Int) (X : Array Value) (w : World) (h : Rd w b T s at' e more er ea X) :
    Calls Tryd.prog 28 #[.pointer (some ⟨b, 0, none⟩), .int .i64 c, .int .i64 z] w fun en w' => en = .returned (.tuple #[]) ∧ Rd w' b T s at' e more (Plain.fe er c) (Plain.fa er ea z) X ∧ w.grownBy w' (some b) := by
  obtain ⟨c0, c1, c2, c3, c4, c5⟩ := h.cells
  have hfr := h.frozen
  have hlt := h.lt
  have H := Lib.hid h; clear h
  by_cases he : er = 0
  · subst he
    go_enter Tryd.func28, Tryd.ntmps28
    go_wp2_with fail
    go_end0
    refine ⟨rfl, ?_, grown_trans (grown_set _ _ _ _) (grown_set _ _ _ _)⟩
    rw [Plain.fe_zero, Plain.fa_zero]
    exact (H.out.setErr c).setEat z
  · have hq : (er == 0) = false := beq_eq_false_iff_ne.2 he
    rw [Plain.fe_no he, Plain.fa_no he]
    clear he
    go_enter Tryd.func28, Tryd.ntmps28
    go_wp2_with fail
    go_end0
    exact ⟨rfl, H.out, grown_refl _ _⟩
end Go.Proofs.YteeekdffbcbamaaDoor
/-
  LIBRARY CONTRACTS laid for this seat: strings.TrimPrefix, HasPrefix, Trim; strconv.Atoi.
-/
namespace Go.Proofs.YteeekdffbcbamaaDoor
open Go.Shelf Go.RowKit Go.Lib
def Tryd.l99_ren : Go.Shelf.Ren := ⟨fun | 99 => 36 | 206 => 49 | n => n, fun | 9 => 9 | 4 => 4 | 3 => 3 | n => n, fun | n => n⟩
theorem Tryd.l99 : Go.Proofs.Lays.n99 Tryd.prog Tryd.l99_ren := {
  mixed := by kernel_rfl
  f99 := Tryd.func36.trans (congrArg some (by kernel_rfl))
  f206 := Tryd.func49.trans (congrArg some (by kernel_rfl))
  t3 := Tryd.underlying3
  a3 := Tryd.isAgg3
  z3 := Tryd.sizeOf3
  v3 := Tryd.zeroValue3
  t4 := Tryd.underlying4
  a4 := Tryd.isAgg4
  z4 := Tryd.sizeOf4
  v4 := Tryd.zeroValue4
  t9 := Tryd.underlying9
  a9 := Tryd.isAgg9
  z9 := Tryd.sizeOf9
  v9 := Tryd.zeroValue9 }
def Tryd.l101_ren : Go.Shelf.Ren := ⟨fun | 101 => 40 | 208 => 50 | 206 => 49 | n => n, fun | 9 => 9 | 4 => 4 | 3 => 3 | n => n, fun | n => n⟩
theorem Tryd.l101 : Go.Proofs.Lays.n101 Tryd.prog Tryd.l101_ren := {
  mixed := by kernel_rfl
  f101 := Tryd.func40.trans (congrArg some (by kernel_rfl))
  f206 := Tryd.func49.trans (congrArg some (by kernel_rfl))
  f208 := Tryd.func50.trans (congrArg some (by kernel_rfl))
  t3 := Tryd.underlying3
  a3 := Tryd.isAgg3
  z3 := Tryd.sizeOf3
  v3 := Tryd.zeroValue3
  t4 := Tryd.underlying4
  a4 := Tryd.isAgg4
  z4 := Tryd.sizeOf4
  v4 := Tryd.zeroValue4
  t9 := Tryd.underlying9
  a9 := Tryd.isAgg9
  z9 := Tryd.sizeOf9
  v9 := Tryd.zeroValue9 }
def Tryd.l160_ren : Go.Shelf.Ren := ⟨fun | 160 => 41 | 232 => 52 | 231 => 51 | 227 => 53 | 234 => 55 | 233 => 54 | 236 => 57 | 235 => 56 | 228 => 65 | 271 => 68 | 151 => 67 | 197 => 66 | 120 => 82 | 152 => 81 | 260 => 80 | 137 => 32 | 119 => 91 | 224 => 75 | 225 => 74 | 217 => 44 | 266 => 61 | n => n, fun | 9 => 9 | 4 => 4 | 3 => 3 | 5 => 5 | 117 => 96 | 116 => 95 | 0 => 0 | 124 => 99 | 21 => 21 | 105 => 104 | 46 => 79 | 119 => 134 | 139 => 137 | 138 => 136 | n => n, fun | 3 => 3 | 4 => 4 | n => n⟩
theorem Tryd.l160 : Go.Proofs.Lays.n160 Tryd.prog Tryd.l160_ren := {
  mixed := by kernel_rfl
  f119 := Tryd.func91.trans (congrArg some (by kernel_rfl))
  f120 := Tryd.func82.trans (congrArg some (by kernel_rfl))
  f137 := Tryd.func32.trans (congrArg some (by kernel_rfl))
  f151 := Tryd.func67.trans (congrArg some (by kernel_rfl))
  f152 := Tryd.func81.trans (congrArg some (by kernel_rfl))
  f160 := Tryd.func41.trans (congrArg some (by kernel_rfl))
  f197 := Tryd.func66.trans (congrArg some (by kernel_rfl))
  f217 := Tryd.func44.trans (congrArg some (by kernel_rfl))
  f224 := Tryd.func75.trans (congrArg some (by kernel_rfl))
  f225 := Tryd.func74.trans (congrArg some (by kernel_rfl))
  f227 := Tryd.func53.trans (congrArg some (by kernel_rfl))
  f228 := Tryd.func65.trans (congrArg some (by kernel_rfl))
  f231 := Tryd.func51.trans (congrArg some (by kernel_rfl))
  f232 := Tryd.func52.trans (congrArg some (by kernel_rfl))
  f233 := Tryd.func54.trans (congrArg some (by kernel_rfl))
  f234 := Tryd.func55.trans (congrArg some (by kernel_rfl))
  f235 := Tryd.func56.trans (congrArg some (by kernel_rfl))
  f236 := Tryd.func57.trans (congrArg some (by kernel_rfl))
  f260 := Tryd.func80.trans (congrArg some (by kernel_rfl))
  f266 := Tryd.func61.trans (congrArg some (by kernel_rfl))
  f271 := Tryd.func68.trans (congrArg some (by kernel_rfl))
  t0 := Tryd.underlying0
  a0 := Tryd.isAgg0
  z0 := Tryd.sizeOf0
  v0 := Tryd.zeroValue0
  t3 := Tryd.underlying3
  a3 := Tryd.isAgg3
  z3 := Tryd.sizeOf3
  v3 := Tryd.zeroValue3
  t4 := Tryd.underlying4
  a4 := Tryd.isAgg4
  z4 := Tryd.sizeOf4
  v4 := Tryd.zeroValue4
  t5 := Tryd.underlying5
  a5 := Tryd.isAgg5
  z5 := Tryd.sizeOf5
  v5 := Tryd.zeroValue5
  t9 := Tryd.underlying9
  a9 := Tryd.isAgg9
  z9 := Tryd.sizeOf9
  v9 := Tryd.zeroValue9
  t21 := Tryd.underlying21
  a21 := Tryd.isAgg21
  z21 := Tryd.sizeOf21
  v21 := Tryd.zeroValue21
  t46 := Tryd.underlying79
  a46 := Tryd.isAgg79
  z46 := Tryd.sizeOf79
  v46 := Tryd.zeroValue79
  t105 := Tryd.underlying104
  a105 := Tryd.isAgg104
  z105 := Tryd.sizeOf104
  v105 := Tryd.zeroValue104
  t116 := Tryd.underlying95
  a116 := Tryd.isAgg95
  z116 := Tryd.sizeOf95
  t117 := Tryd.underlying96
  a117 := Tryd.isAgg96
  z117 := Tryd.sizeOf96
  v117 := Tryd.zeroValue96
  t119 := Tryd.underlying134
  a119 := Tryd.isAgg134
  z119 := Tryd.sizeOf134
  t124 := Tryd.underlying99
  a124 := Tryd.isAgg99
  z124 := Tryd.sizeOf99
  v124 := Tryd.zeroValue99
  t138 := Tryd.underlying136
  a138 := Tryd.isAgg136
  z138 := Tryd.sizeOf136
  v138 := Tryd.zeroValue136
  t139 := Tryd.underlying137
  a139 := Tryd.isAgg137
  z139 := Tryd.sizeOf137
  v139 := Tryd.zeroValue137
  g3 := by kernel_rfl
  g4 := by kernel_rfl }
def Tryd.c172_ren : Go.Shelf.Ren := ⟨fun | 172 => 42 | 244 => 58 | 245 => 59 | 247 => 69 | 279 => 70 | 280 => 71 | 281 => 72 | 282 => 73 | 287 => 83 | 316 => 84 | 171 => 45 | 205 => 85 | 321 => 92 | 322 => 93 | 243 => 62 | 246 => 77 | 283 => 87 | 284 => 88 | 285 => 89 | 286 => 90 | 129 => 95 | 317 => 94 | 318 => 96 | 319 => 97 | 320 => 98 | 337 => 99 | 338 => 100 | n => n, fun | 9 => 9 | 3 => 3 | 75 => 83 | 76 => 84 | 4 => 4 | 5 => 5 | 167 => 107 | 37 => 45 | 0 => 0 | 85 => 108 | 2 => 2 | 168 => 110 | 53 => 119 | 175 => 120 | 46 => 79 | 210 => 124 | 127 => 102 | 145 => 143 | 143 => 141 | 21 => 21 | 171 => 129 | 173 => 132 | 212 => 144 | 51 => 126 | 20 => 20 | 213 => 145 | 232 => 149 | 233 => 150 | 80 => 92 | n => n, fun | 15 => 1 | 16 => 2 | 17 => 5 | 18 => 6 | 19 => 7 | n => n⟩
theorem Tryd.c172 : Go.Proofs.LaysC.n172 Tryd.prog Tryd.c172_ren := {
  mixed := by kernel_rfl
  f129 := Tryd.func95.trans (congrArg some (by kernel_rfl))
  f171 := Tryd.func45.trans (congrArg some (by kernel_rfl))
  f172 := Tryd.func42.trans (congrArg some (by kernel_rfl))
  f205 := Tryd.func85.trans (congrArg some (by kernel_rfl))
  f243 := Tryd.func62.trans (congrArg some (by kernel_rfl))
  f244 := Tryd.func58.trans (congrArg some (by kernel_rfl))
  f245 := Tryd.func59.trans (congrArg some (by kernel_rfl))
  f246 := Tryd.func77.trans (congrArg some (by kernel_rfl))
  f247 := Tryd.func69.trans (congrArg some (by kernel_rfl))
  f279 := Tryd.func70.trans (congrArg some (by kernel_rfl))
  f280 := Tryd.func71.trans (congrArg some (by kernel_rfl))
  f281 := Tryd.func72.trans (congrArg some (by kernel_rfl))
  f282 := Tryd.func73.trans (congrArg some (by kernel_rfl))
  f283 := Tryd.func87.trans (congrArg some (by kernel_rfl))
  f284 := Tryd.func88.trans (congrArg some (by kernel_rfl))
  f285 := Tryd.func89.trans (congrArg some (by kernel_rfl))
  f286 := Tryd.func90.trans (congrArg some (by kernel_rfl))
  f287 := Tryd.func83.trans (congrArg some (by kernel_rfl))
  f316 := Tryd.func84.trans (congrArg some (by kernel_rfl))
  f317 := Tryd.func94.trans (congrArg some (by kernel_rfl))
  f318 := Tryd.func96.trans (congrArg some (by kernel_rfl))
  f319 := Tryd.func97.trans (congrArg some (by kernel_rfl))
  f320 := Tryd.func98.trans (congrArg some (by kernel_rfl))
  f321 := Tryd.func92.trans (congrArg some (by kernel_rfl))
  f322 := Tryd.func93.trans (congrArg some (by kernel_rfl))
  f337 := Tryd.func99.trans (congrArg some (by kernel_rfl))
  f338 := Tryd.func100.trans (congrArg some (by kernel_rfl))
  t0 := Tryd.underlying0
  a0 := Tryd.isAgg0
  z0 := Tryd.sizeOf0
  v0 := Tryd.zeroValue0
  t2 := Tryd.underlying2
  a2 := Tryd.isAgg2
  z2 := Tryd.sizeOf2
  v2 := Tryd.zeroValue2
  t3 := Tryd.underlying3
  a3 := Tryd.isAgg3
  z3 := Tryd.sizeOf3
  v3 := Tryd.zeroValue3
  t4 := Tryd.underlying4
  a4 := Tryd.isAgg4
  z4 := Tryd.sizeOf4
  v4 := Tryd.zeroValue4
  t5 := Tryd.underlying5
  a5 := Tryd.isAgg5
  z5 := Tryd.sizeOf5
  v5 := Tryd.zeroValue5
  t9 := Tryd.underlying9
  a9 := Tryd.isAgg9
  z9 := Tryd.sizeOf9
  v9 := Tryd.zeroValue9
  t20 := Tryd.underlying20
  a20 := Tryd.isAgg20
  z20 := Tryd.sizeOf20
  v20 := Tryd.zeroValue20
  t21 := Tryd.underlying21
  a21 := Tryd.isAgg21
  z21 := Tryd.sizeOf21
  v21 := Tryd.zeroValue21
  t37 := Tryd.underlying45
  a37 := Tryd.isAgg45
  z37 := Tryd.sizeOf45
  v37 := Tryd.zeroValue45
  t46 := Tryd.underlying79
  a46 := Tryd.isAgg79
  z46 := Tryd.sizeOf79
  v46 := Tryd.zeroValue79
  t51 := Tryd.underlying126
  a51 := Tryd.isAgg126
  z51 := Tryd.sizeOf126
  v51 := Tryd.zeroValue126
  t53 := Tryd.underlying119
  a53 := Tryd.isAgg119
  z53 := Tryd.sizeOf119
  v53 := Tryd.zeroValue119
  t75 := Tryd.underlying83
  a75 := Tryd.isAgg83
  z75 := Tryd.sizeOf83
  v75 := Tryd.zeroValue83
  t76 := Tryd.underlying84
  a76 := Tryd.isAgg84
  z76 := Tryd.sizeOf84
  v76 := Tryd.zeroValue84
  t85 := Tryd.underlying108
  a85 := Tryd.isAgg108
  z85 := Tryd.sizeOf108
  v85 := Tryd.zeroValue108
  t127 := Tryd.underlying102
  a127 := Tryd.isAgg102
  z127 := Tryd.sizeOf102
  v127 := Tryd.zeroValue102
  t143 := Tryd.underlying141
  a143 := Tryd.isAgg141
  z143 := Tryd.sizeOf141
  v143 := Tryd.zeroValue141
  t145 := Tryd.underlying143
  a145 := Tryd.isAgg143
  z145 := Tryd.sizeOf143
  v145 := Tryd.zeroValue143
  t167 := Tryd.underlying107
  a167 := Tryd.isAgg107
  z167 := Tryd.sizeOf107
  v167 := Tryd.zeroValue107
  t168 := Tryd.underlying110
  a168 := Tryd.isAgg110
  z168 := Tryd.sizeOf110
  v168 := Tryd.zeroValue110
  t171 := Tryd.underlying129
  a171 := Tryd.isAgg129
  z171 := Tryd.sizeOf129
  v171 := Tryd.zeroValue129
  t173 := Tryd.underlying132
  a173 := Tryd.isAgg132
  z173 := Tryd.sizeOf132
  v173 := Tryd.zeroValue132
  t175 := Tryd.underlying120
  a175 := Tryd.isAgg120
  z175 := Tryd.sizeOf120
  v175 := Tryd.zeroValue120
  t210 := Tryd.underlying124
  a210 := Tryd.isAgg124
  z210 := Tryd.sizeOf124
  v210 := Tryd.zeroValue124
  t212 := Tryd.underlying144
  a212 := Tryd.isAgg144
  z212 := Tryd.sizeOf144
  v212 := Tryd.zeroValue144
  t213 := Tryd.underlying145
  a213 := Tryd.isAgg145
  z213 := Tryd.sizeOf145
  t232 := Tryd.underlying149
  a232 := Tryd.isAgg149
  z232 := Tryd.sizeOf149
  v232 := Tryd.zeroValue149
  t233 := Tryd.underlying150
  a233 := Tryd.isAgg150
  z233 := Tryd.sizeOf150
  v233 := Tryd.zeroValue150
  g15 := by kernel_rfl
  g16 := by kernel_rfl
  g17 := by kernel_rfl
  g18 := by kernel_rfl
  g19 := by kernel_rfl
  t80 := Tryd.underlying92
  a80 := Tryd.isAgg92
  z80 := Tryd.sizeOf92
  v80 := Tryd.zeroValue92
  i0 := by kernel_rfl
  i2 := by kernel_rfl
  i3 := by kernel_rfl
  i4 := by kernel_rfl
  i5 := by kernel_rfl
  i9 := by kernel_rfl
  i20 := by kernel_rfl
  i21 := by kernel_rfl
  i37 := by kernel_rfl
  i46 := by kernel_rfl
  i51 := by kernel_rfl
  i53 := by kernel_rfl
  i75 := by kernel_rfl
  i76 := by kernel_rfl
  i80 := by kernel_rfl
  i85 := by kernel_rfl
  i127 := by kernel_rfl
  i143 := by kernel_rfl
  i145 := by kernel_rfl
  i167 := by kernel_rfl
  i168 := by kernel_rfl
  i171 := by kernel_rfl
  i173 := by kernel_rfl
  i175 := by kernel_rfl
  i210 := by kernel_rfl
  i212 := by kernel_rfl
  i232 := by kernel_rfl
  i233 := by kernel_rfl
  m15 := by kernel_rfl
  m16 := by kernel_rfl
  m17 := by kernel_rfl
  m18 := by kernel_rfl
  m19 := by kernel_rfl
  c0 := by kernel_rfl
  c2 := by kernel_rfl
  c3 := by kernel_rfl
  c4 := by kernel_rfl
  c5 := by kernel_rfl
  c9 := by kernel_rfl
  c20 := by kernel_rfl
  c21 := by kernel_rfl
  c37 := by kernel_rfl
  c46 := by kernel_rfl
  c51 := by kernel_rfl
  c53 := by kernel_rfl
  c75 := by kernel_rfl
  c76 := by kernel_rfl
  c80 := by kernel_rfl
  c85 := by kernel_rfl
  c127 := by kernel_rfl
  c143 := by kernel_rfl
  c145 := by kernel_rfl
  c167 := by kernel_rfl
  c168 := by kernel_rfl
  c171 := by kernel_rfl
  c173 := by kernel_rfl
  c175 := by kernel_rfl
  c210 := by kernel_rfl
  c212 := by kernel_rfl
  c213 := by kernel_rfl
  c232 := by kernel_rfl
  c233 := by kernel_rfl }

theorem hasPrefix_any (s p : ByteArray) (w : World) (r : Bool) (hr : Lib.hasPrefix s.data.toList p.data.toList = r) :
    Calls Tryd.prog 36 #[.string s, .string p] w fun e w' => e = .returned (.bool r) ∧ w = w' := by
  have h := Any.strings_HasPrefix Tryd.l99 s p w
  change Calls Tryd.prog 36 _ _ _ at h
  rw [hr] at h
  exact h.mono fun _ _ ⟨h1, h2⟩ => ⟨h1, h2.symm⟩
theorem trimPrefix_body (l : List UInt8) : Lib.trimPrefix l [45] = Plain.body l := by
  unfold Lib.trimPrefix Lib.hasPrefix Plain.body Plain.negB
  cases l with
  | nil => rfl
  | cons c r =>
    by_cases h : c = 45
    · subst h; simp
    · have h2 : ¬ (45 : UInt8) = c := fun e => h e.symm
      simp [List.isPrefixOf, h, h2]
theorem trimPrefix_any (s : ByteArray) (w : World) (D : ByteArray) (hD : (⟨(Plain.body s.data.toList).toArray⟩ : ByteArray) = D) :
    Calls Tryd.prog 40 #[.string s, .string ⟨#[45]⟩] w fun e w' => e = .returned (.string D) ∧ w = w' := by
  have h := Any.strings_TrimPrefix Tryd.l101 s ⟨#[45]⟩ w
  change Calls Tryd.prog 40 _ _ _ at h
  rw [show (⟨#[45]⟩ : ByteArray).data.toList = [45] from rfl, trimPrefix_body, hD] at h
  exact h.mono fun _ _ ⟨h1, h2⟩ => ⟨h1, h2.symm⟩
theorem trim_any (s : ByteArray) (w : World) (hs : s.size ≤ 1000000) (R : ByteArray) (hR : (⟨(Lib.trimS s.data.toList Plain.digits).toArray⟩ : ByteArray) = R) :
    Calls Tryd.prog 41 #[.string s, .string ⟨#[48, 49, 50, 51, 52, 53, 54, 55, 56, 57]⟩] w fun e w' => e = .returned (.string R) ∧ Below w.heap.size w w' := by
  have h := Any.strings_Trim_laid Tryd.l160 (by kernel_rfl) s ⟨#[48, 49, 50, 51, 52, 53, 54, 55, 56, 57]⟩ w (by omega) (by decide) (ascii_of_all (by decide))
  change Calls Tryd.prog 41 _ _ _ at h
  rw [show (⟨#[48, 49, 50, 51, 52, 53, 54, 55, 56, 57]⟩ : ByteArray).data.toList = Plain.digits from rfl, hR] at h
  exact h
theorem atoi_ok (s : ByteArray) (w : World) (hs : s.size ≤ 1000000) (hb : Plain.badB s.data.toList = false) (v : Int) (hv : Plain.numV s.data.toList = v) (h1 : -9223372036854775808 ≤ v) (h2 : v < 9223372036854775808) :
    Calls Tryd.prog 42 #[.string s] w fun e w' => e = .returned (.tuple #[.int .i64 v, .nilIface]) ∧ Below w.heap.size w w' := by
  have e := Plain.atoi_of hb
  rw [hv, if_pos ⟨h1, h2⟩] at e
  have h := Any.strconv_Atoi_ok Tryd.c172 s (by omega) v e w
  change Calls Tryd.prog 42 _ _ _ at h
  refine h.mono fun _ _ ⟨h1, h2⟩ => ⟨h1, ?_⟩
  rcases h2 with rfl | ⟨t, rfl⟩
  · exact Below.refl _ _
  · exact Lib.bytesWorld_below _ _ _
theorem atoi_range (s : ByteArray) (w : World) (hs : s.size ≤ 1000000) (hb : Plain.badB s.data.toList = false) (v : Int) (hv : Plain.numV s.data.toList = v) (h1 : ¬ (-9223372036854775808 ≤ v ∧ v < 9223372036854775808))
    (te : TypeId) (pe : Value) (hE : w.cell? ⟨2, 0, none⟩ = some (.iface te pe)) :
    Calls Tryd.prog 42 #[.string s] w fun e w' => ∃ z t p, e = .returned (.tuple #[.int .i64 z, .iface t p]) ∧ Below w.heap.size w w' := by
  have e := Plain.atoi_of hb
  rw [hv, if_neg h1] at e
  have h := Any.strconv_Atoi_range Tryd.c172 s (by omega) e _ w hE (Or.inr ⟨te, pe, rfl⟩)
  change Calls Tryd.prog 42 _ _ _ at h
  exact h.mono fun _ _ ⟨N, h1, _, _, h2⟩ => ⟨_, _, _, h1, h2⟩
end Go.Proofs.YteeekdffbcbamaaDoor
/-
  LIBRARY CONTRACTS laid for this seat: strconv.Itoa, strings.Join; the package variables that a world holds.
-/
namespace Go.Proofs.YteeekdffbcbamaaDoor
open Go.Shelf Go.RowKit Go.Lib
def Tryd.m171_ren : Go.Shelf.Ren := ⟨fun | 171 => 45 | 243 => 62 | 246 => 77 | 283 => 87 | 284 => 88 | 285 => 89 | 286 => 90 | 129 => 95 | 317 => 94 | 318 => 96 | 319 => 97 | 320 => 98 | 337 => 99 | 338 => 100 | n => n, fun | 3 => 3 | 9 => 9 | 2 => 2 | 4 => 4 | 171 => 129 | 0 => 0 | 53 => 119 | 37 => 45 | 5 => 5 | 173 => 132 | 212 => 144 | 51 => 126 | 20 => 20 | 213 => 145 | 46 => 79 | 232 => 149 | 233 => 150 | n => n, fun | 17 => 5 | 18 => 6 | 19 => 7 | n => n⟩
theorem Tryd.m171 : Go.Proofs.LaysM.n171 Tryd.prog Tryd.m171_ren := {
  mixed := by kernel_rfl
  f129 := Tryd.func95.trans (congrArg some (by kernel_rfl))
  f171 := Tryd.func45.trans (congrArg some (by kernel_rfl))
  f243 := Tryd.func62.trans (congrArg some (by kernel_rfl))
  f246 := Tryd.func77.trans (congrArg some (by kernel_rfl))
  f283 := Tryd.func87.trans (congrArg some (by kernel_rfl))
  f284 := Tryd.func88.trans (congrArg some (by kernel_rfl))
  f285 := Tryd.func89.trans (congrArg some (by kernel_rfl))
  f286 := Tryd.func90.trans (congrArg some (by kernel_rfl))
  f317 := Tryd.func94.trans (congrArg some (by kernel_rfl))
  f318 := Tryd.func96.trans (congrArg some (by kernel_rfl))
  f319 := Tryd.func97.trans (congrArg some (by kernel_rfl))
  f320 := Tryd.func98.trans (congrArg some (by kernel_rfl))
  f337 := Tryd.func99.trans (congrArg some (by kernel_rfl))
  f338 := Tryd.func100.trans (congrArg some (by kernel_rfl))
  t0 := Tryd.underlying0
  a0 := Tryd.isAgg0
  z0 := Tryd.sizeOf0
  v0 := Tryd.zeroValue0
  t2 := Tryd.underlying2
  a2 := Tryd.isAgg2
  z2 := Tryd.sizeOf2
  v2 := Tryd.zeroValue2
  t3 := Tryd.underlying3
  a3 := Tryd.isAgg3
  z3 := Tryd.sizeOf3
  v3 := Tryd.zeroValue3
  t4 := Tryd.underlying4
  a4 := Tryd.isAgg4
  z4 := Tryd.sizeOf4
  v4 := Tryd.zeroValue4
  t5 := Tryd.underlying5
  a5 := Tryd.isAgg5
  z5 := Tryd.sizeOf5
  v5 := Tryd.zeroValue5
  t9 := Tryd.underlying9
  a9 := Tryd.isAgg9
  z9 := Tryd.sizeOf9
  v9 := Tryd.zeroValue9
  t20 := Tryd.underlying20
  a20 := Tryd.isAgg20
  z20 := Tryd.sizeOf20
  v20 := Tryd.zeroValue20
  t37 := Tryd.underlying45
  a37 := Tryd.isAgg45
  z37 := Tryd.sizeOf45
  v37 := Tryd.zeroValue45
  t46 := Tryd.underlying79
  a46 := Tryd.isAgg79
  z46 := Tryd.sizeOf79
  v46 := Tryd.zeroValue79
  t51 := Tryd.underlying126
  a51 := Tryd.isAgg126
  z51 := Tryd.sizeOf126
  v51 := Tryd.zeroValue126
  t53 := Tryd.underlying119
  a53 := Tryd.isAgg119
  z53 := Tryd.sizeOf119
  v53 := Tryd.zeroValue119
  t171 := Tryd.underlying129
  a171 := Tryd.isAgg129
  z171 := Tryd.sizeOf129
  v171 := Tryd.zeroValue129
  t173 := Tryd.underlying132
  a173 := Tryd.isAgg132
  z173 := Tryd.sizeOf132
  v173 := Tryd.zeroValue132
  t212 := Tryd.underlying144
  a212 := Tryd.isAgg144
  z212 := Tryd.sizeOf144
  v212 := Tryd.zeroValue144
  t213 := Tryd.underlying145
  a213 := Tryd.isAgg145
  z213 := Tryd.sizeOf145
  t232 := Tryd.underlying149
  a232 := Tryd.isAgg149
  z232 := Tryd.sizeOf149
  v232 := Tryd.zeroValue149
  t233 := Tryd.underlying150
  a233 := Tryd.isAgg150
  z233 := Tryd.sizeOf150
  v233 := Tryd.zeroValue150
  g17 := by kernel_rfl
  g18 := by kernel_rfl
  g19 := by kernel_rfl
  i0 := by kernel_rfl
  i2 := by kernel_rfl
  i3 := by kernel_rfl
  i4 := by kernel_rfl
  i5 := by kernel_rfl
  i9 := by kernel_rfl
  i20 := by kernel_rfl
  i37 := by kernel_rfl
  i46 := by kernel_rfl
  i51 := by kernel_rfl
  i53 := by kernel_rfl
  i171 := by kernel_rfl
  i173 := by kernel_rfl
  i212 := by kernel_rfl
  i232 := by kernel_rfl
  i233 := by kernel_rfl
  m17 := by kernel_rfl
  m18 := by kernel_rfl
  m19 := by kernel_rfl }
def Tryd.l156_ren : Go.Shelf.Ren := ⟨fun | 156 => 35 | 165 => 46 | 166 => 47 | 169 => 48 | 240 => 63 | 241 => 64 | 276 => 78 | 277 => 79 | n => n, fun | 31 => 74 | 9 => 9 | 3 => 3 | 4 => 4 | 0 => 0 | 20 => 20 | 72 => 90 | 76 => 84 | 70 => 88 | 37 => 45 | 75 => 83 | 127 => 102 | 164 => 115 | 5 => 5 | 80 => 92 | n => n, fun | n => n⟩
theorem Tryd.l156 : Go.Proofs.Lays.n156 Tryd.prog Tryd.l156_ren := {
  mixed := by kernel_rfl
  f156 := Tryd.func35.trans (congrArg some (by kernel_rfl))
  f165 := Tryd.func46.trans (congrArg some (by kernel_rfl))
  f166 := Tryd.func47.trans (congrArg some (by kernel_rfl))
  f169 := Tryd.func48.trans (congrArg some (by kernel_rfl))
  f240 := Tryd.func63.trans (congrArg some (by kernel_rfl))
  f241 := Tryd.func64.trans (congrArg some (by kernel_rfl))
  f276 := Tryd.func78.trans (congrArg some (by kernel_rfl))
  f277 := Tryd.func79.trans (congrArg some (by kernel_rfl))
  t0 := Tryd.underlying0
  a0 := Tryd.isAgg0
  z0 := Tryd.sizeOf0
  v0 := Tryd.zeroValue0
  t3 := Tryd.underlying3
  a3 := Tryd.isAgg3
  z3 := Tryd.sizeOf3
  v3 := Tryd.zeroValue3
  t4 := Tryd.underlying4
  a4 := Tryd.isAgg4
  z4 := Tryd.sizeOf4
  v4 := Tryd.zeroValue4
  t9 := Tryd.underlying9
  a9 := Tryd.isAgg9
  z9 := Tryd.sizeOf9
  v9 := Tryd.zeroValue9
  t20 := Tryd.underlying20
  a20 := Tryd.isAgg20
  z20 := Tryd.sizeOf20
  v20 := Tryd.zeroValue20
  t31 := Tryd.underlying74
  a31 := Tryd.isAgg74
  z31 := Tryd.sizeOf74
  v31 := Tryd.zeroValue74
  t37 := Tryd.underlying45
  a37 := Tryd.isAgg45
  z37 := Tryd.sizeOf45
  v37 := Tryd.zeroValue45
  t70 := Tryd.underlying88
  a70 := Tryd.isAgg88
  z70 := Tryd.sizeOf88
  v70 := Tryd.zeroValue88
  t72 := Tryd.underlying90
  a72 := Tryd.isAgg90
  z72 := Tryd.sizeOf90
  v72 := Tryd.zeroValue90
  t75 := Tryd.underlying83
  a75 := Tryd.isAgg83
  z75 := Tryd.sizeOf83
  v75 := Tryd.zeroValue83
  t76 := Tryd.underlying84
  a76 := Tryd.isAgg84
  z76 := Tryd.sizeOf84
  v76 := Tryd.zeroValue84
  t127 := Tryd.underlying102
  a127 := Tryd.isAgg102
  z127 := Tryd.sizeOf102
  v127 := Tryd.zeroValue102
  t164 := Tryd.underlying115
  a164 := Tryd.isAgg115
  z164 := Tryd.sizeOf115
  v164 := Tryd.zeroValue115 }
theorem extra156 : Builder.Extra Tryd.prog Tryd.l156_ren where
  sizeBuilder := by kernel_rfl
  liesBuilder := by kernel_rfl
  t5 := Tryd.underlying5
  a5 := Tryd.isAgg5
  z5 := Tryd.sizeOf5
  v5 := Tryd.zeroValue5
  infoByte := by kernel_rfl
  cellsByte := by kernel_rfl
  sizeByte := by kernel_rfl
  neB5 := by decide

/-- The package variables that the calls read. -/
def Env (w : World) : Prop :=
  8 ≤ w.heap.size ∧ Lib.TabIs Tryd.prog w "internal/strconv.uint64pow10" .u64 Lib.pow10Tab ∧ ∃ te pe, w.cell? ⟨2, 0, none⟩ = some (.iface te pe)
theorem tab_at : Tryd.prog.globalNamed "internal/strconv.uint64pow10" = some 5 := by kernel_rfl
theorem Env.below {B : Nat} {w w' : World} (h : Env w) (hb : Below B w w') (hB : 8 ≤ B) : Env w' := by
  obtain ⟨h1, h2, te, pe, h3⟩ := h
  refine ⟨Nat.le_trans h1 hb.size, ?_, te, pe, (hb.cell (p := ⟨2, 0, none⟩) (by show 2 < B; omega)).trans h3⟩
  unfold Lib.TabIs World.var? at h2 ⊢
  rw [tab_at] at h2 ⊢
  simp only [Option.bind_some] at h2 ⊢
  rw [hb.block 5 (by omega)]
  exact h2
/-- A number's decimal text. -/
def itoaB (n : Int) : ByteArray := ⟨(Lib.itoa n).toArray⟩
theorem itoaB_size (n : Int) (h0 : -9223372036854775808 ≤ n) (h1 : n ≤ 9223372036854775807) : (itoaB n).size ≤ 21 := by
  have := Lib.itoa_length_le n h0 h1
  show (Lib.itoa n).toArray.size ≤ 21
  simpa using this
theorem itoa_any (n : Int) (h0 : -9223372036854775808 ≤ n) (h1 : n ≤ 9223372036854775807) (w : World) (he : Env w) :
    Calls Tryd.prog 45 #[.int .i64 n] w fun e w' => e = .returned (.string (itoaB n)) ∧ Below w.heap.size w w' := by
  have h := Any.strconv_Itoa Tryd.m171 n h0 h1 w he.2.1
  change Calls Tryd.prog 45 _ _ _ at h
  exact h.mono fun _ _ ⟨h1, k, os, h2⟩ => ⟨h1, h2 ▸ below_grow _ _ (Nat.le_refl _) _ _⟩
/-- Texts with a comma between them. -/
def joinB (xs : List ByteArray) : ByteArray := ⟨(Lib.join (xs.map (·.data.toList)) [44]).toArray⟩
theorem join_any (bk o c : Nat) (xs : List ByteArray) (w : World) (hcells : ∀ (j : Nat) x, xs[j]? = some x → w.cell? ⟨bk, o + j, none⟩ = some (.string x))
    (hbk : bk < w.heap.size) (hN : xs.length ≤ 1000) (hcap : xs.length ≤ c) (hlen : (Lib.join (xs.map (·.data.toList)) [44]).length ≤ 1000000) :
    Calls Tryd.prog 35 #[.slice (some ⟨bk, o, none⟩) xs.length c, .string ⟨#[44]⟩] w fun e w' => e = .returned (.string (joinB xs)) ∧ Below w.heap.size w w' := by
  have h := Any.strings_Join Tryd.l156 extra156 bk o c xs ⟨#[44]⟩ w hcells hbk (by omega) hcap (Nat.le_trans hlen (by omega))
  change Calls Tryd.prog 35 _ _ _ at h
  exact h
end Go.Proofs.YteeekdffbcbamaaDoor
