/-
  WALKS: the reference's hexadecimal digit.
-/
import Derived.Test.YteeekdffbcbamaaGreatDoorG1
import Derived.Test.YteeekdffbcbamaaGreatDoorProg
import Derived.WalkKit
import Derived.Below
import Derived.BigQuiet
import Derived.Deep.QuietTactic
import Derived.Lib.Hide
import Derived.RegionTactic
import Derived.Outline
import Derived.Test.YteeekdffbcbamaaGreatDoorRows
import Derived.Lib.LaidTab
import Derived.Stop.LaidErr
import Derived.LaidLaws
import Derived.Lib.LaidIn
import Derived.Lib.LaidU8
import Derived.JoinedOf
import Derived.RowKitTokens
import Derived.LaidHandle
import Derived.ProofKit
namespace Go.Proofs.YteeekdffbcbamaaGreatDoor
open Go.RowKit

/-- The value of a hexadecimal digit, -1 if it is none. -/
def Plain.hexZ (c : UInt8) : Int :=
  if 48 ≤ c.toNat ∧ c.toNat ≤ 57 then (c.toNat : Int) - 48 else if 65 ≤ c.toNat ∧ c.toNat ≤ 70 then (c.toNat : Int) - 65 + 10 else -1
theorem rdigit_any (c : UInt8) (w : World) : Calls Tryz.prog 35 #[.int .u8 c.toNat] w fun e w' => e = .returned (.int .i64 (Plain.hexZ c)) ∧ w = w' := by
  have hc : c.toNat < 256 := c.toNat_lt
  have hcase : ((c.toNat : Int) < 48 ∧ Plain.hexZ c = -1) ∨ ((48 : Int) ≤ c.toNat ∧ (c.toNat : Int) ≤ 57 ∧ Plain.hexZ c = (c.toNat : Int) - 48) ∨ ((57 : Int) < c.toNat ∧ (c.toNat : Int) < 65 ∧ Plain.hexZ c = -1) ∨ ((65 : Int) ≤ c.toNat ∧ (c.toNat : Int) ≤ 70 ∧ Plain.hexZ c = (c.toNat : Int) - 65 + 10) ∨ ((70 : Int) < c.toNat ∧ Plain.hexZ c = -1) := by
    unfold Plain.hexZ
    split
    · exact Or.inr (Or.inl ⟨by omega, by omega, rfl⟩)
    · split
      · exact Or.inr (Or.inr (Or.inr (Or.inl ⟨by omega, by omega, rfl⟩)))
      · rcases Nat.lt_or_ge c.toNat 48 with h | h
        · exact Or.inl ⟨by omega, rfl⟩
        · rcases Nat.lt_or_ge c.toNat 65 with h2 | h2
          · exact Or.inr (Or.inr (Or.inl ⟨by omega, by omega, rfl⟩))
          · exact Or.inr (Or.inr (Or.inr (Or.inr ⟨by omega, rfl⟩)))
  rcases hcase with ⟨h1, h⟩ | ⟨h1, h2, h⟩ | ⟨h1, h2, h⟩ | ⟨h1, h2, h⟩ | ⟨h1, h⟩
  · have H := Lib.hid h; clear h
    go_enter Tryz.func35, Tryz.ntmps35
    go_wp2_with fail
    go_ret
    exact ⟨by rw [H.out]; rfl, rfl⟩
  · have H := Lib.hid h; clear h
    go_enter Tryz.func35, Tryz.ntmps35
    go_wp2_with fail
    go_ret
    exact ⟨by rw [H.out]; rfl, rfl⟩
  · have H := Lib.hid h; clear h
    have h1' : (48 : Int) ≤ c.toNat := by omega
    go_enter Tryz.func35, Tryz.ntmps35
    go_wp2_with fail
    go_ret
    exact ⟨by rw [H.out]; rfl, rfl⟩
  · have H := Lib.hid h; clear h
    have h1' : (48 : Int) ≤ c.toNat := by omega
    have h2' : (57 : Int) < c.toNat := by omega
    go_enter Tryz.func35, Tryz.ntmps35
    go_wp2_with fail
    go_ret
    exact ⟨by rw [H.out]; rfl, rfl⟩
  · have H := Lib.hid h; clear h
    have h1' : (48 : Int) ≤ c.toNat := by omega
    have h2' : (57 : Int) < c.toNat := by omega
    have h3' : (65 : Int) ≤ c.toNat := by omega
    go_enter Tryz.func35, Tryz.ntmps35
    go_wp2_with fail
    go_ret
    exact ⟨by rw [H.out]; rfl, rfl⟩
end Go.Proofs.YteeekdffbcbamaaGreatDoor
/-
  PLAIN: where the fields of a line end, or the fault of its frame.
-/
namespace Go.Proofs.YteeekdffbcbamaaGreatDoor.Plain

def hexL : List UInt8 := [48, 49, 50, 51, 52, 53, 54, 55, 56, 57, 65, 66, 67, 68, 69, 70]
theorem hexZ_ge (c : UInt8) : -1 ≤ hexZ c ∧ hexZ c ≤ 15 := by
  unfold hexZ
  split
  · omega
  · split <;> omega
theorem hex_index (c : UInt8) : Lib.indexByte hexL c = hexZ c := by
  have h : ∀ n : Fin 256, Lib.indexByte hexL (UInt8.ofNat n.val) = hexZ (UInt8.ofNat n.val) := by decide +kernel
  have := h ⟨c.toNat, c.toNat_lt⟩
  simpa using this
/-- The hexadecimal digit at a place, -1 if there is none. -/
def hexAt (s : ByteArray) (i : Nat) : Int := if h : i < s.size then hexZ s[i] else -1
theorem hexAt_le (s : ByteArray) (i : Nat) : -1 ≤ hexAt s i ∧ hexAt s i ≤ 15 := by
  unfold hexAt
  split
  · exact hexZ_ge _
  · omega
theorem hexAt_lt {s : ByteArray} {i : Nat} (h : 0 ≤ hexAt s i) : i < s.size := by
  unfold hexAt at h
  split at h
  · assumption
  · omega
theorem hexAt_get {s : ByteArray} {i : Nat} (h : i < s.size) : hexAt s i = hexZ s[i] := by
  unfold hexAt
  rw [dif_pos h]
/-- Where the star stands. -/
def starN (s : ByteArray) : Nat := upto s.data.toList 42
theorem starN_le (s : ByteArray) : starN s ≤ s.size := by
  have := upto_le s.data.toList 42
  rw [len_size] at this
  exact this
/-- Where the fields end, the error and its place. -/
def endsP (s : ByteArray) : Nat × Int × Int :=
  if 500 < s.size then (0, 4, 500)
  else if s.data.toList.head? ≠ some 36 then (0, 11, 0)
  else if starN s = s.size then (0, 11, s.size)
  else if hexAt s (starN s + 1) < 0 then (0, 11, starN s + 1)
  else if hexAt s (starN s + 2) < 0 then (0, 11, starN s + 2)
  else if starN s + 3 < s.size then (0, 11, starN s + 3)
  else if (sumN (s.extract 1 (starN s)).data.toList : Int) ≠ 16 * hexAt s (starN s + 1) + hexAt s (starN s + 2) then (0, 14, starN s + 1)
  else (starN s, 0, 0)
theorem hasPrefix_dollar (s : ByteArray) : Lib.hasPrefix s.data.toList [36] = decide (s.data.toList.head? = some 36) := by
  unfold Lib.hasPrefix
  cases s.data.toList with
  | nil => rfl
  | cons c r =>
    by_cases h : c = 36
    · subst h; simp
    · have h2 : ¬ (36 : UInt8) = c := fun e => h e.symm
      simp [List.isPrefixOf, h, h2]
theorem star_pos {s : ByteArray} (h : s.data.toList.head? = some 36) : 1 ≤ starN s := by
  unfold starN
  cases hl : s.data.toList with
  | nil => rw [hl] at h; cases h
  | cons c r =>
    rw [hl] at h
    obtain rfl : c = 36 := by simpa using h
    rw [upto_cons, if_neg (by decide)]
    omega
end Go.Proofs.YteeekdffbcbamaaGreatDoor.Plain
/-
  WALKS: Sum of package report and of the reference.
-/
namespace Go.Proofs.YteeekdffbcbamaaGreatDoor
open Go.RowKit

set_option maxHeartbeats 1000000 in
theorem sum_any (s : ByteArray) (w : World) (hs : s.size ≤ 1000000) :
    Calls Tryz.prog 17 #[.string s] w fun e w' => e = .returned (.int .i64 (Plain.sumN s.data.toList)) ∧ w = w' := by
  have HF := Lib.hid (Plain.take_all s)
  go_enter Tryz.func17, Tryz.ntmps17
  go_wp2_with fail
  go_loop [3, 7] (fun n i => ∃ (k z : Nat), z < 256 ∧ k ≤ s.size ∧ i = .int .i64 k ∧ n = .int .i64 z ∧ Hid (Plain.sumN (s.data.toList.take k) = z)) (fun _ i => s.size - (intOf i).toNat)
  case atStart => exact ⟨0, 0, by omega, Nat.zero_le _, rfl, rfl, Lib.hid rfl⟩
  case round =>
    obtain ⟨k, z, hz, hk, rfl, rfl, hS⟩ := hrel
    by_cases hlt : k < s.size
    · have hst := Plain.sum_step s k hlt
      rw [hS.out] at hst
      have hc := s[k].toNat_lt
      have hc2 : s[k].toNat < 256 := hc
      have HX := Lib.hid (Plain.xor_i64 z s[k].toNat hz hc)
      have hb := Plain.sumN_lt (s.data.toList.take (k + 1))
      rw [hst] at hb
      have HS := Lib.hid hst; clear hst
      have HB := Lib.hid hb; clear hb hc
      go_wp2_with fail
      go_round
      case rel => exact ⟨k + 1, z ^^^ s[k].toNat, HB.out, by omega, by go_num, by rw [HX.out], HS⟩
      case measure => simp [intOf]; omega
    · obtain rfl : k = s.size := by omega
      have h := hS.out
      rw [HF.out] at h
      subst h
      go_wp2_with fail
      go_ret
      exact ⟨rfl, rfl⟩
set_option maxHeartbeats 1000000 in
theorem rsum_any (s : ByteArray) (w : World) (hs : s.size ≤ 1000000) :
    Calls Tryz.prog 18 #[.string s] w fun e w' => e = .returned (.int .i64 (Plain.sumN s.data.toList)) ∧ w = w' := by
  have HF := Lib.hid (Plain.take_all s)
  go_enter Tryz.func18, Tryz.ntmps18
  go_wp2_with fail
  go_loop [3, 4] (fun n i => ∃ (k z : Nat), z < 256 ∧ k ≤ s.size ∧ i = .int .i64 k ∧ n = .int .i64 z ∧ Hid (Plain.sumN (s.data.toList.take k) = z)) (fun _ i => s.size - (intOf i).toNat)
  case atStart => exact ⟨0, 0, by omega, Nat.zero_le _, rfl, rfl, Lib.hid rfl⟩
  case round =>
    obtain ⟨k, z, hz, hk, rfl, rfl, hS⟩ := hrel
    by_cases hlt : k < s.size
    · have hst := Plain.sum_step s k hlt
      rw [hS.out] at hst
      have hc := s[k].toNat_lt
      have hc2 : s[k].toNat < 256 := hc
      have HX := Lib.hid (Plain.xor_i64 z s[k].toNat hz hc)
      have hb := Plain.sumN_lt (s.data.toList.take (k + 1))
      rw [hst] at hb
      have HS := Lib.hid hst; clear hst
      have HB := Lib.hid hb; clear hb hc
      go_wp2_with fail
      go_round
      case rel => exact ⟨k + 1, z ^^^ s[k].toNat, HB.out, by omega, by go_num, by rw [HX.out], HS⟩
      case measure => simp [intOf]; omega
    · obtain rfl : k = s.size := by omega
      have h := hS.out
      rw [HF.out] at h
      subst h
      go_wp2_with fail
      go_ret
      exact ⟨rfl, rfl⟩
end Go.Proofs.YteeekdffbcbamaaGreatDoor
/-
  From the row's condition on the listed variables to what the walks ask of a world.
-/
namespace Go.Proofs.YteeekdffbcbamaaGreatDoor
open Go.RowKit
theorem pow10_data : (Rows.laid_internal_strconv_uint64pow10 : DataW Unit) = Lib.tabData .u64 Lib.pow10Tab := by rfl
theorem star_errS : "*" ++ "errors.errorString" = "*errors.errorString" := by decide
theorem typeName_errS (u : TypeId) (h : Tryz.prog.typeName? 3 u = some "*errors.errorString") : u = 141 :=
  typeName_ptr_named (nm := "errors.errorString") (by rw [star_errS]; kernel_rfl) (by kernel_rfl) (by decide) u (by rw [star_errS]; exact h)
theorem env_of_laid {W : World} (h8 : 8 ≤ W.heap.size) (h : laidMet Tryz.prog Rows.reportParsesRow.laid W) : Env W := by
  have h2 := h.tail.tail
  have h4 := h2.tail.tail
  refine ⟨h8, Lib.tabIs_of_head (t := 149) (e := 123) (n := 20) tab_at (by kernel_rfl) (by kernel_rfl) (by kernel_rfl) (by kernel_rfl) (by kernel_rfl) (pow10_data ▸ h2), ?_⟩
  obtain ⟨a, u, hv, -, -, -⟩ := laid_sentinel (g := 2) h4 (by kernel_rfl) (by kernel_rfl) Tryz.underlying54 (fun u hu => typeName_errS u hu) Tryz.underlying141 Tryz.underlying143 rfl rfl Tryz.underlying9 (by kernel_rfl) (by kernel_rfl)
  exact ⟨_, _, by simpa using World.var?_cell (by kernel_rfl) hv 0⟩
end Go.Proofs.YteeekdffbcbamaaGreatDoor
/-
  A world in which the row's listed variables lie as the program's text lays them.
-/
namespace Go.Proofs.YteeekdffbcbamaaGreatDoor
open Go.RowKit Go.Lib
def lits1 {H : Type} : DataW H → List Value
  | .lit (.int k z) => [.int k z]
  | _ => []
def lits2 {H : Type} : DataW H → List Value
  | .agg ds => ds.flatMap lits1
  | d => lits1 d
def litsT {H : Type} : DataW H → Array Value
  | .agg ds => (ds.flatMap lits2).toArray
  | _ => #[]
noncomputable def laidWorld (os : Os) : World :=
  let N := (World.settled Tryz.prog os).heap.size
  let w0 := World.holding Tryz.prog os ⟨#[.cells #[.string ⟨#[105, 110, 118, 97, 108, 105, 100, 32, 115, 121, 110, 116, 97, 120]⟩] 143, .cells #[.string ⟨#[118, 97, 108, 117, 101, 32, 111, 117, 116, 32, 111, 102, 32, 114, 97, 110, 103, 101]⟩] 143], #[], []⟩
  let put (h : Array Obj) (g : Nat) (cs : Array Value) : Array Obj := h.modify g fun
    | .cells _ t frozen => .cells cs t frozen
    | o => o
  let h0 := put (put w0.heap 1 #[.iface 141 (.pointer (some ⟨N, 0, none⟩))]) 2 #[.iface 141 (.pointer (some ⟨N + 1, 0, none⟩))]
  let h1 := put h0 3 (Lib.firstTab.map fun z => Value.int .u8 z).toArray
  let h2 := put h1 4 (litsT (Rows.laid_unicode_utf8_acceptRanges : DataW Unit))
  let h3 := put h2 5 (litsT (Rows.laid_internal_strconv_uint64pow10 : DataW Unit))
  let h4 := put h3 6 (litsT (Rows.laid_math_bits_deBruijn32tab : DataW Unit))
  let h5 := put h4 7 (litsT (Rows.laid_math_bits_deBruijn64tab : DataW Unit))
  { w0 with heap := h5 }
noncomputable abbrev N0 : Nat := (World.settled Tryz.prog default).heap.size
set_option maxRecDepth 1000000 in
theorem laidIn41 (os : Os) (args : Array Value) : LaidIn Tryz.prog ((laidWorld os).forCall (fun _ _ => 0) ⟨#[], args, []⟩).memory Rows.reportParsesRow.laid [6, 7, 5, 4, 2, N0 + 1, 1, N0, 3] :=
  LaidIn.of_run [6, 7, 5, 4, 2, N0 + 1, 1, N0, 3] 8 (by kernel_rfl) (by kernel_rfl) (by kernel_rfl) (by kernel_rfl)
theorem laid_met (os : Os) (args : Array Value) : laidMet Tryz.prog Rows.reportParsesRow.laid ((laidWorld os).forCall (fun _ _ => 0) ⟨#[], args, []⟩).memory :=
  (laidIn41 os args).met
end Go.Proofs.YteeekdffbcbamaaGreatDoor
