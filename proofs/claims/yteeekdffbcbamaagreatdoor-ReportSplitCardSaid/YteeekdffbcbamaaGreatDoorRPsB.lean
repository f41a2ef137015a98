/-
  WALKS: the reference's Parse: the checksum.
-/
import Derived.Test.YteeekdffbcbamaaGreatDoorRPsA
namespace Go.Proofs.YteeekdffbcbamaaGreatDoor
open Go.RowKit

set_option maxRecDepth 100000 in
set_option maxHeartbeats 4000000 in
theorem rp_d1 (s : ByteArray) (w : World) (h : s.size ≤ 500) (hd : s.data.toList.head? = some 36) (e : Nat) (he : Plain.starN s = e) (hes : e < s.size) (hx : Plain.hexAt s (e + 1) < 0) : Calls Tryz.prog 15 #[.string s] w (ParsePost w (Plain.zeroSn, 11, (e : Int) + 1)) := by
  have hle := Plain.starN_le s
  rw [he] at hle
  have h0 : 0 < s.size := by
    have := Plain.len_size s
    cases hl : s.data.toList with
    | nil => rw [hl] at hd; cases hd
    | cons x r => rw [hl] at this; simp at this; omega
  have hc := head_at hd h0
  have hc2 : s[0].toNat < 256 := s[0].toNat_lt
  have h0' : (0 : Int) < s.size := by omega
  have q0 : ((s.size : Int) == 0) = false := beq_eq_false_iff_ne.2 (by omega)
  have q1 : ((s[0].toNat : Int) != 36) = false := by rw [bne_eq_false_iff_eq]; omega
  have HNE := Lib.hid (fun k (hk : k < s.size) (h : k < e) => star_ne hk (by rw [he]; exact h))
  have HAT := Lib.hid (fun (hk : e < s.size) => star_at he hk)
  clear hc hd he
  by_cases h1 : e + 1 < s.size
  · rw [Plain.hexAt_get h1] at hx
    have HX := Lib.hid (fun W => rdigit_any s[e + 1] W)
    have hcx : s[e + 1].toNat < 256 := s[e + 1].toNat_lt
    generalize Plain.hexZ s[e + 1] = z at hx HX
    go_enter Tryz.func15, Tryz.ntmps15
    go_wp2_with fail
    go_loop [4] (fun i => ∃ k : Nat, k ≤ e ∧ i = .int .i64 k) (fun i => e - (intOf i).toNat)
    case atStart => exact ⟨0, Nat.zero_le _, rfl⟩
    case round =>
      obtain ⟨k, hk, rfl⟩ := hrel
      by_cases hlt : k < e
      · have hks : k < s.size := by omega
        have hne := HNE.out k hks hlt
        have hkc : s[k].toNat < 256 := s[k].toNat_lt
        have q2 : ((s[k].toNat : Int) != 42) = true := by rw [bne_iff_ne]; omega
        clear hne
        go_wp2_with fail
        go_round
        case rel => exact ⟨k + 1, by omega, by go_num⟩
        case measure => simp [intOf]; omega
      · obtain rfl : k = e := by omega
        clear hk hlt
        have hat := HAT.out (by omega)
        have q2 : ((s[k].toNat : Int) != 42) = false := by rw [bne_eq_false_iff_eq]; omega
        have hkc : s[k].toNat < 256 := s[k].toNat_lt
        have q3 : ((k : Int) == s.size) = false := beq_eq_false_iff_ne.2 (by omega)
        clear hat
        go_wp2_with fail
        go_loop [5] (fun i => i = .int .i64 ((k : Int) + 1)) (fun _ => 0)
        case atStart => rfl
        case round =>
          subst hrel
          go_wp2_with fail
          refine (HX.out _).mono ?_
          rintro en w1 ⟨rfl, rfl⟩
          go_wp2_with fail
          exact rparse_ret (v := .slice none 0 0) rfl rfl (Blk.alloc (heap_alloc_new w _) _) (heap_new_at _ _ _ (by simp)) (World.ownsRow_nil _ _ _ _) (((Below.refl _ _).alloc (Nat.le_refl _) _).alloc (by simp) _)
  · clear hx
    go_enter Tryz.func15, Tryz.ntmps15
    go_wp2_with fail
    go_loop [4] (fun i => ∃ k : Nat, k ≤ e ∧ i = .int .i64 k) (fun i => e - (intOf i).toNat)
    case atStart => exact ⟨0, Nat.zero_le _, rfl⟩
    case round =>
      obtain ⟨k, hk, rfl⟩ := hrel
      by_cases hlt : k < e
      · have hks : k < s.size := by omega
        have hne := HNE.out k hks hlt
        have hkc : s[k].toNat < 256 := s[k].toNat_lt
        have q2 : ((s[k].toNat : Int) != 42) = true := by rw [bne_iff_ne]; omega
        clear hne
        go_wp2_with fail
        go_round
        case rel => exact ⟨k + 1, by omega, by go_num⟩
        case measure => simp [intOf]; omega
      · obtain rfl : k = e := by omega
        clear hk hlt
        have hat := HAT.out (by omega)
        have q2 : ((s[k].toNat : Int) != 42) = false := by rw [bne_eq_false_iff_eq]; omega
        have hkc : s[k].toNat < 256 := s[k].toNat_lt
        have q3 : ((k : Int) == s.size) = false := beq_eq_false_iff_ne.2 (by omega)
        clear hat
        go_wp2_with fail
        go_loop [5] (fun i => i = .int .i64 ((k : Int) + 1)) (fun _ => 0)
        case atStart => rfl
        case round =>
          subst hrel
          go_wp2_with fail
          exact rparse_ret (v := .slice none 0 0) rfl rfl (Blk.alloc (heap_alloc_new w _) _) (heap_new_at _ _ _ (by simp)) (World.ownsRow_nil _ _ _ _) (((Below.refl _ _).alloc (Nat.le_refl _) _).alloc (by simp) _)
set_option maxRecDepth 100000 in
set_option maxHeartbeats 4000000 in
theorem rp_d2 (s : ByteArray) (w : World) (h : s.size ≤ 500) (hd : s.data.toList.head? = some 36) (e : Nat) (he : Plain.starN s = e) (hx : 0 ≤ Plain.hexAt s (e + 1)) (hy : Plain.hexAt s (e + 2) < 0) : Calls Tryz.prog 15 #[.string s] w (ParsePost w (Plain.zeroSn, 11, (e : Int) + 2)) := by
  have h1 := Plain.hexAt_lt hx
  have hle := Plain.starN_le s
  rw [he] at hle
  have h0 : 0 < s.size := by
    have := Plain.len_size s
    cases hl : s.data.toList with
    | nil => rw [hl] at hd; cases hd
    | cons x r => rw [hl] at this; simp at this; omega
  have hc := head_at hd h0
  have hc2 : s[0].toNat < 256 := s[0].toNat_lt
  have h0' : (0 : Int) < s.size := by omega
  have q0 : ((s.size : Int) == 0) = false := beq_eq_false_iff_ne.2 (by omega)
  have q1 : ((s[0].toNat : Int) != 36) = false := by rw [bne_eq_false_iff_eq]; omega
  have HNE := Lib.hid (fun k (hk : k < s.size) (h : k < e) => star_ne hk (by rw [he]; exact h))
  have HAT := Lib.hid (fun (hk : e < s.size) => star_at he hk)
  clear hc hd he
  rw [Plain.hexAt_get h1] at hx
  have HX := Lib.hid (fun W => rdigit_any s[e + 1] W)
  have hcx : s[e + 1].toNat < 256 := s[e + 1].toNat_lt
  generalize Plain.hexZ s[e + 1] = z at hx HX
  by_cases h2 : e + 2 < s.size
  · rw [Plain.hexAt_get h2] at hy
    have HXb := Lib.hid (fun W => rdigit_any s[e + 2] W)
    have hcxb : s[e + 2].toNat < 256 := s[e + 2].toNat_lt
    generalize Plain.hexZ s[e + 2] = y at hy HXb
    go_enter Tryz.func15, Tryz.ntmps15
    go_wp2_with fail
    go_loop [4] (fun i => ∃ k : Nat, k ≤ e ∧ i = .int .i64 k) (fun i => e - (intOf i).toNat)
    case atStart => exact ⟨0, Nat.zero_le _, rfl⟩
    case round =>
      obtain ⟨k, hk, rfl⟩ := hrel
      by_cases hlt : k < e
      · have hks : k < s.size := by omega
        have hne := HNE.out k hks hlt
        have hkc : s[k].toNat < 256 := s[k].toNat_lt
        have q2 : ((s[k].toNat : Int) != 42) = true := by rw [bne_iff_ne]; omega
        clear hne
        go_wp2_with fail
        go_round
        case rel => exact ⟨k + 1, by omega, by go_num⟩
        case measure => simp [intOf]; omega
      · obtain rfl : k = e := by omega
        clear hk hlt
        have hat := HAT.out (by omega)
        have q2 : ((s[k].toNat : Int) != 42) = false := by rw [bne_eq_false_iff_eq]; omega
        have hkc : s[k].toNat < 256 := s[k].toNat_lt
        have q3 : ((k : Int) == s.size) = false := beq_eq_false_iff_ne.2 (by omega)
        clear hat
        go_wp2_with fail
        go_loop [5] (fun i => i = .int .i64 ((k : Int) + 1) ∨ i = .int .i64 ((k : Int) + 2)) (fun i => k + 3 - (intOf i).toNat)
        case atStart => exact Or.inl rfl
        case round =>
          rcases hrel with rfl | rfl
          · go_wp2_with fail
            refine (HX.out _).mono ?_
            rintro en w1 ⟨rfl, rfl⟩
            go_wp2_with fail
            go_round
            case rel => exact Or.inr ((by go_num))
            case measure => simp [intOf]; omega
          · go_wp2_with fail
            refine (HXb.out _).mono ?_
            rintro en w1 ⟨rfl, rfl⟩
            go_wp2_with fail
            exact rparse_ret (v := .slice none 0 0) rfl rfl (Blk.alloc (heap_alloc_new w _) _) (heap_new_at _ _ _ (by simp)) (World.ownsRow_nil _ _ _ _) (((Below.refl _ _).alloc (Nat.le_refl _) _).alloc (by simp) _)
  · clear hy
    go_enter Tryz.func15, Tryz.ntmps15
    go_wp2_with fail
    go_loop [4] (fun i => ∃ k : Nat, k ≤ e ∧ i = .int .i64 k) (fun i => e - (intOf i).toNat)
    case atStart => exact ⟨0, Nat.zero_le _, rfl⟩
    case round =>
      obtain ⟨k, hk, rfl⟩ := hrel
      by_cases hlt : k < e
      · have hks : k < s.size := by omega
        have hne := HNE.out k hks hlt
        have hkc : s[k].toNat < 256 := s[k].toNat_lt
        have q2 : ((s[k].toNat : Int) != 42) = true := by rw [bne_iff_ne]; omega
        clear hne
        go_wp2_with fail
        go_round
        case rel => exact ⟨k + 1, by omega, by go_num⟩
        case measure => simp [intOf]; omega
      · obtain rfl : k = e := by omega
        clear hk hlt
        have hat := HAT.out (by omega)
        have q2 : ((s[k].toNat : Int) != 42) = false := by rw [bne_eq_false_iff_eq]; omega
        have hkc : s[k].toNat < 256 := s[k].toNat_lt
        have q3 : ((k : Int) == s.size) = false := beq_eq_false_iff_ne.2 (by omega)
        clear hat
        go_wp2_with fail
        go_loop [5] (fun i => i = .int .i64 ((k : Int) + 1) ∨ i = .int .i64 ((k : Int) + 2)) (fun i => k + 3 - (intOf i).toNat)
        case atStart => exact Or.inl rfl
        case round =>
          rcases hrel with rfl | rfl
          · go_wp2_with fail
            refine (HX.out _).mono ?_
            rintro en w1 ⟨rfl, rfl⟩
            go_wp2_with fail
            go_round
            case rel => exact Or.inr ((by go_num))
            case measure => simp [intOf]; omega
          · go_wp2_with fail
            exact rparse_ret (v := .slice none 0 0) rfl rfl (Blk.alloc (heap_alloc_new w _) _) (heap_new_at _ _ _ (by simp)) (World.ownsRow_nil _ _ _ _) (((Below.refl _ _).alloc (Nat.le_refl _) _).alloc (by simp) _)
set_option maxRecDepth 100000 in
set_option maxHeartbeats 4000000 in
theorem rp_more (s : ByteArray) (w : World) (h : s.size ≤ 500) (hd : s.data.toList.head? = some 36) (e : Nat) (he : Plain.starN s = e) (hx : 0 ≤ Plain.hexAt s (e + 1)) (hy : 0 ≤ Plain.hexAt s (e + 2)) (c1 : e + 3 < s.size) : Calls Tryz.prog 15 #[.string s] w (ParsePost w (Plain.zeroSn, 11, (e : Int) + 3)) := by
  have h1 := Plain.hexAt_lt hx
  have h2 := Plain.hexAt_lt hy
  have he1 : 1 ≤ e := by rw [← he]; exact Plain.star_pos hd
  have hle := Plain.starN_le s
  rw [he] at hle
  have h0 : 0 < s.size := by
    have := Plain.len_size s
    cases hl : s.data.toList with
    | nil => rw [hl] at hd; cases hd
    | cons x r => rw [hl] at this; simp at this; omega
  have hc := head_at hd h0
  have hc2 : s[0].toNat < 256 := s[0].toNat_lt
  have h0' : (0 : Int) < s.size := by omega
  have q0 : ((s.size : Int) == 0) = false := beq_eq_false_iff_ne.2 (by omega)
  have q1 : ((s[0].toNat : Int) != 36) = false := by rw [bne_eq_false_iff_eq]; omega
  have HNE := Lib.hid (fun k (hk : k < s.size) (h : k < e) => star_ne hk (by rw [he]; exact h))
  have HAT := Lib.hid (fun (hk : e < s.size) => star_at he hk)
  clear hc hd he
  rw [Plain.hexAt_get h1] at hx
  rw [Plain.hexAt_get h2] at hy
  have HX := Lib.hid (fun W => rdigit_any s[e + 1] W)
  have hcx : s[e + 1].toNat < 256 := s[e + 1].toNat_lt
  have HXb := Lib.hid (fun W => rdigit_any s[e + 2] W)
  have hcxb : s[e + 2].toNat < 256 := s[e + 2].toNat_lt
  clear he1
  generalize Plain.hexZ s[e + 1] = z at hx HX
  generalize Plain.hexZ s[e + 2] = y at hy HXb
  go_enter Tryz.func15, Tryz.ntmps15
  go_wp2_with fail
  go_loop [4] (fun i => ∃ k : Nat, k ≤ e ∧ i = .int .i64 k) (fun i => e - (intOf i).toNat)
  case atStart => exact ⟨0, Nat.zero_le _, rfl⟩
  case round =>
    obtain ⟨k, hk, rfl⟩ := hrel
    by_cases hlt : k < e
    · have hks : k < s.size := by omega
      have hne := HNE.out k hks hlt
      have hkc : s[k].toNat < 256 := s[k].toNat_lt
      have q2 : ((s[k].toNat : Int) != 42) = true := by rw [bne_iff_ne]; omega
      clear hne
      go_wp2_with fail
      go_round
      case rel => exact ⟨k + 1, by omega, by go_num⟩
      case measure => simp [intOf]; omega
    · obtain rfl : k = e := by omega
      clear hk hlt
      have hat := HAT.out (by omega)
      have q2 : ((s[k].toNat : Int) != 42) = false := by rw [bne_eq_false_iff_eq]; omega
      have hkc : s[k].toNat < 256 := s[k].toNat_lt
      have q3 : ((k : Int) == s.size) = false := beq_eq_false_iff_ne.2 (by omega)
      clear hat
      go_wp2_with fail
      go_loop [5] (fun i => i = .int .i64 ((k : Int) + 1) ∨ i = .int .i64 ((k : Int) + 2) ∨ i = .int .i64 ((k : Int) + 3)) (fun i => k + 3 - (intOf i).toNat)
      case atStart => exact Or.inl rfl
      case round =>
        rcases hrel with rfl | rfl | rfl
        · go_wp2_with fail
          refine (HX.out _).mono ?_
          rintro en w1 ⟨rfl, rfl⟩
          go_wp2_with fail
          go_round
          case rel => exact Or.inr (Or.inl (by go_num))
          case measure => simp [intOf]; omega
        · go_wp2_with fail
          refine (HXb.out _).mono ?_
          rintro en w1 ⟨rfl, rfl⟩
          go_wp2_with fail
          go_round
          case rel => exact Or.inr (Or.inr (by go_num))
          case measure => simp [intOf]; omega
        · go_wp2_with fail
          exact rparse_ret (v := .slice none 0 0) rfl rfl (Blk.alloc (heap_alloc_new w _) _) (heap_new_at _ _ _ (by simp)) (World.ownsRow_nil _ _ _ _) (((Below.refl _ _).alloc (Nat.le_refl _) _).alloc (by simp) _)
end Go.Proofs.YteeekdffbcbamaaGreatDoor
