/-
  WALKS: the reference's Parse: lines whose frame is not right.
-/
import Derived.Test.YteeekdffbcbamaaGreatDoorG4
import Derived.Test.YteeekdffbcbamaaGreatDoorRNumF
import Derived.Test.YteeekdffbcbamaaGreatDoorEndsB
namespace Go.Proofs.YteeekdffbcbamaaGreatDoor
open Go.RowKit

theorem rparse_ret {w W : World} {tmps : Array Value} {g1 g2 : Nat} {r : Plain.Sn × Int × Int} {v : Value} (h2 : tmps[2]?.getD undef = .pointer (some ⟨g1, 0, none⟩)) (h3 : tmps[3]?.getD undef = .pointer (some ⟨g2, 0, none⟩))
    (hA : Blk W g1 28 (snCells r.1 v)) (hC : Blk W g2 39 #[.int .i64 r.2.1, .int .i64 r.2.2]) (ho : W.ownsRow w.heap.size 3 1 v r.1.prns.length (r.1.prns.map (Value.int .i64))) (hB : Below w.heap.size w W) :
    bodyPost Tryz.prog Tryz.f15 (ParsePost w r) .ret { tmps := tmps, defers := [] } W := by
  obtain ⟨k0, k1, k2, k3, k4, k5, k6, k7, k8, k9, k10, k11, k12, k13⟩ := Blk.cells14 hA
  have u0 := hC.cell 0
  have u1 := hC.cell 1
  exact bodyPost_ret (v := .tuple #[.agg (snCells r.1 v), .agg #[.int .i64 r.2.1, .int .i64 r.2.2]]) (by simp [results, Tryz.results15, go_sem, snCells, h2, h3, k0, k1, k2, k3, k4, k5, k6, k7, k8, k9, k10, k11, k12, k13, u0, u1]) rfl ⟨v, rfl, ho, hB⟩
theorem head_at {s : ByteArray} (h : s.data.toList.head? = some 36) (h0 : 0 < s.size) : s[0].toNat = 36 := by
  obtain ⟨r, hr⟩ := Plain.list_head s h0
  rw [hr] at h
  have : s[0] = 36 := by simpa using h
  rw [this]
  rfl
theorem head_not {s : ByteArray} (h : s.data.toList.head? ≠ some 36) (h0 : 0 < s.size) : ¬ s[0].toNat = 36 := by
  obtain ⟨r, hr⟩ := Plain.list_head s h0
  rw [hr] at h
  intro e
  apply h
  have : s[0] = 36 := UInt8.toNat_inj.1 (show s[0].toNat = (36 : UInt8).toNat from e)
  rw [this]
  rfl
theorem star_ne {s : ByteArray} {k : Nat} (hk : k < s.size) (h : k < Plain.starN s) : ¬ s[k].toNat = 42 := by
  intro e
  have := Plain.upto_ne s.data.toList 42 k (by rw [Plain.len_size]; exact hk) h
  exact this (UInt8.toNat_inj.1 (show s[k].toNat = (42 : UInt8).toNat from e))
theorem star_at {s : ByteArray} {e : Nat} (he : Plain.starN s = e) (hk : e < s.size) : s[e].toNat = 42 := by
  subst he
  have := Plain.upto_at s.data.toList 42 (by rw [Plain.len_size]; exact hk)
  have h2 : s[Plain.starN s] = 42 := this
  rw [h2]
  rfl
theorem two_new (w : World) : Blk ((w.alloc (.cells zeroX 28)).alloc (.cells #[.int .i64 0, .int .i64 0] 39)) w.heap.size 28 zeroX ∧ Blk ((w.alloc (.cells zeroX 28)).alloc (.cells #[.int .i64 0, .int .i64 0] 39)) (w.heap.size + 1) 39 #[.int .i64 0, .int .i64 0] ∧ Below w.heap.size w ((w.alloc (.cells zeroX 28)).alloc (.cells #[.int .i64 0, .int .i64 0] 39)) :=
  ⟨Blk.alloc (heap_alloc_new w _) _, heap_new_at _ _ _ (by simp), ((Below.refl _ _).alloc (Nat.le_refl _) _).alloc (by simp) _⟩

set_option maxRecDepth 100000 in
set_option maxHeartbeats 4000000 in
theorem rp_long (s : ByteArray) (w : World) (h : 500 < s.size) : Calls Tryz.prog 15 #[.string s] w (ParsePost w (Plain.zeroSn, 4, 500)) := by
  go_enter Tryz.func15, Tryz.ntmps15
  go_wp2_with fail
  exact rparse_ret (v := .slice none 0 0) rfl rfl (Blk.alloc (heap_alloc_new w _) _) (heap_new_at _ _ _ (by simp)) (World.ownsRow_nil _ _ _ _) (((Below.refl _ _).alloc (Nat.le_refl _) _).alloc (by simp) _)
set_option maxRecDepth 100000 in
set_option maxHeartbeats 4000000 in
theorem rp_empty (s : ByteArray) (w : World) (h : s.size = 0) : Calls Tryz.prog 15 #[.string s] w (ParsePost w (Plain.zeroSn, 11, 0)) := by
  obtain rfl : s = ⟨#[]⟩ := by apply ByteArray.ext; exact Array.eq_empty_of_size_eq_zero h
  clear h
  go_enter Tryz.func15, Tryz.ntmps15
  go_wp2_with fail
  exact rparse_ret (v := .slice none 0 0) rfl rfl (Blk.alloc (heap_alloc_new w _) _) (heap_new_at _ _ _ (by simp)) (World.ownsRow_nil _ _ _ _) (((Below.refl _ _).alloc (Nat.le_refl _) _).alloc (by simp) _)
set_option maxRecDepth 100000 in
set_option maxHeartbeats 4000000 in
theorem rp_no (s : ByteArray) (w : World) (h : s.size ≤ 500) (h0 : 0 < s.size) (hd : s.data.toList.head? ≠ some 36) : Calls Tryz.prog 15 #[.string s] w (ParsePost w (Plain.zeroSn, 11, 0)) := by
  have hc := head_not hd h0
  have hc2 : s[0].toNat < 256 := s[0].toNat_lt
  have h0' : (0 : Int) < s.size := by omega
  have q0 : ((s.size : Int) == 0) = false := beq_eq_false_iff_ne.2 (by omega)
  have q1 : ((s[0].toNat : Int) != 36) = true := by rw [bne_iff_ne]; omega
  clear hd hc
  go_enter Tryz.func15, Tryz.ntmps15
  go_wp2_with fail
  exact rparse_ret (v := .slice none 0 0) rfl rfl (Blk.alloc (heap_alloc_new w _) _) (heap_new_at _ _ _ (by simp)) (World.ownsRow_nil _ _ _ _) (((Below.refl _ _).alloc (Nat.le_refl _) _).alloc (by simp) _)
set_option maxRecDepth 100000 in
set_option maxHeartbeats 4000000 in
theorem rp_nostar (s : ByteArray) (w : World) (h : s.size ≤ 500) (hd : s.data.toList.head? = some 36) (e : Nat) (he : Plain.starN s = e) (hes : e = s.size) : Calls Tryz.prog 15 #[.string s] w (ParsePost w (Plain.zeroSn, 11, e)) := by
  have hle := Plain.starN_le s
  rw [he] at hle
  have h0 : 0 < s.size := by
    have := Plain.len_size s
    cases hl : s.data.toList with
    | nil => rw [hl] at hd; cases hd
    | cons x r => rw [hl] at this; simp at this; omega
  have hc := head_at hd h0
  have hc2 : s[0].toNat < 256 := s[0].toNat_lt
  have h0' : (0 : Int) < s.size := by omega
  have q0 : ((s.size : Int) == 0) = false := beq_eq_false_iff_ne.2 (by omega)
  have q1 : ((s[0].toNat : Int) != 36) = false := by rw [bne_eq_false_iff_eq]; omega
  have HNE := Lib.hid (fun k (hk : k < s.size) (h : k < e) => star_ne hk (by rw [he]; exact h))
  have HAT := Lib.hid (fun (hk : e < s.size) => star_at he hk)
  clear hc hd he
  have hge : s.size ≤ e := by omega
  have q3 : ((e : Int) == s.size) = true := by simp; omega
  clear hes
  go_enter Tryz.func15, Tryz.ntmps15
  go_wp2_with fail
  go_loop [4] (fun i => ∃ k : Nat, k ≤ e ∧ i = .int .i64 k) (fun i => e - (intOf i).toNat)
  case atStart => exact ⟨0, Nat.zero_le _, rfl⟩
  case round =>
    obtain ⟨k, hk, rfl⟩ := hrel
    by_cases hlt : k < e
    · have hks : k < s.size := by omega
      have hne := HNE.out k hks hlt
      have hkc : s[k].toNat < 256 := s[k].toNat_lt
      have q2 : ((s[k].toNat : Int) != 42) = true := by rw [bne_iff_ne]; omega
      clear hne
      go_wp2_with fail
      go_round
      case rel => exact ⟨k + 1, by omega, by go_num⟩
      case measure => simp [intOf]; omega
    · obtain rfl : k = e := by omega
      clear hk hlt
      go_wp2_with fail
      exact rparse_ret (v := .slice none 0 0) rfl rfl (Blk.alloc (heap_alloc_new w _) _) (heap_new_at _ _ _ (by simp)) (World.ownsRow_nil _ _ _ _) (((Below.refl _ _).alloc (Nat.le_refl _) _).alloc (by simp) _)
end Go.Proofs.YteeekdffbcbamaaGreatDoor
