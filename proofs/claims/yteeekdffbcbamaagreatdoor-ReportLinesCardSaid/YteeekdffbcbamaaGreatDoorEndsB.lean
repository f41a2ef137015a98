/-
  WALKS: where the fields of a line end (package report): the other ways, and all of them together.
-/
import Derived.Test.YteeekdffbcbamaaGreatDoorEnds
namespace Go.Proofs.YteeekdffbcbamaaGreatDoor
open Go.RowKit

section
variable (s : ByteArray) (w : World) (h : s.size ≤ 500) (hd : s.data.toList.head? = some 36) (e : Nat) (he : Plain.starN s = e) (hx : 0 ≤ Plain.hexAt s (e + 1))
include h hd he hx
theorem ends_d2 (hy : Plain.hexAt s (e + 2) < 0) :
    Calls Tryz.prog 30 #[.string s] w (EndsPost w 0 11 (e + 2 : Nat)) := by
  have HD := Lib.hid (fun W => dollar_any s W true (decide_eq_true hd))
  have h1 := Plain.hexAt_lt hx
  have HS := Lib.hid (fun W => star_any s W e (by rw [he, if_pos (by omega)]))
  have HX := Lib.hid (fun W => hexI_any s[e + 1] W _ rfl)
  have hg := (Plain.hexZ_ge s[e + 1]).2
  rw [Plain.hexAt_get h1] at hx
  have hc := s[e + 1].toNat_lt
  clear hd he
  generalize Plain.hexZ s[e + 1] = z at hx HX hg
  by_cases h2 : e + 2 < s.size
  · have HY := Lib.hid (fun W => hexI_any s[e + 2] W _ rfl)
    rw [Plain.hexAt_get h2] at hy
    have hc2 := s[e + 2].toNat_lt
    generalize Plain.hexZ s[e + 2] = y at hy HY
    go_enter Tryz.func30, Tryz.ntmps30
    go_wp2_with fail
    refine (HD.out _).mono ?_
    rintro en w1 ⟨rfl, rfl⟩
    go_wp2_with fail
    refine (HS.out _).mono ?_
    rintro en w1 ⟨rfl, rfl⟩
    go_wp2_with fail
    go_loop [5, 6] (fun m i => (m = .int .i64 0 ∧ i = .int .i64 ((e : Int) + 1)) ∨ (m = .int .i64 z ∧ i = .int .i64 ((e : Int) + 2))) (fun _ i => e + 3 - (intOf i).toNat)
    case atStart => exact Or.inl ⟨rfl, rfl⟩
    case round =>
      rcases hrel with ⟨rfl, rfl⟩ | ⟨rfl, rfl⟩
      · go_wp2_with fail
        refine (HX.out _).mono ?_
        rintro en w1 ⟨rfl, rfl⟩
        go_wp2_with fail
        refine (HX.out _).mono ?_
        rintro en w1 ⟨rfl, rfl⟩
        go_wp2_with fail
        go_round
        case rel => exact Or.inr (⟨by first | rfl | simp, by go_num⟩)
        case measure => simp [intOf]; omega
      · go_wp2_with fail
        refine (HY.out _).mono ?_
        rintro en w1 ⟨rfl, rfl⟩
        go_wp2_with fail
        exact bodyPost_ret (v := .tuple #[.int .i64 0, .agg #[.int .i64 11, .int .i64 ((e : Int) + 2)]]) (by simp [results, Tryz.results30, go_sem]) rfl ⟨rfl, (Below.refl _ _).alloc (Nat.le_refl _) _⟩
  · clear hy
    go_enter Tryz.func30, Tryz.ntmps30
    go_wp2_with fail
    refine (HD.out _).mono ?_
    rintro en w1 ⟨rfl, rfl⟩
    go_wp2_with fail
    refine (HS.out _).mono ?_
    rintro en w1 ⟨rfl, rfl⟩
    go_wp2_with fail
    go_loop [5, 6] (fun m i => (m = .int .i64 0 ∧ i = .int .i64 ((e : Int) + 1)) ∨ (m = .int .i64 z ∧ i = .int .i64 ((e : Int) + 2))) (fun _ i => e + 3 - (intOf i).toNat)
    case atStart => exact Or.inl ⟨rfl, rfl⟩
    case round =>
      rcases hrel with ⟨rfl, rfl⟩ | ⟨rfl, rfl⟩
      · go_wp2_with fail
        refine (HX.out _).mono ?_
        rintro en w1 ⟨rfl, rfl⟩
        go_wp2_with fail
        refine (HX.out _).mono ?_
        rintro en w1 ⟨rfl, rfl⟩
        go_wp2_with fail
        go_round
        case rel => exact Or.inr (⟨by first | rfl | simp, by go_num⟩)
        case measure => simp [intOf]; omega
      · go_wp2_with fail
        exact bodyPost_ret (v := .tuple #[.int .i64 0, .agg #[.int .i64 11, .int .i64 ((e : Int) + 2)]]) (by simp [results, Tryz.results30, go_sem]) rfl ⟨rfl, (Below.refl _ _).alloc (Nat.le_refl _) _⟩
set_option maxHeartbeats 1000000 in
theorem ends_more (hy : 0 ≤ Plain.hexAt s (e + 2)) (c1 : e + 3 < s.size) :
    Calls Tryz.prog 30 #[.string s] w (EndsPost w 0 11 (e + 3 : Nat)) := by
  have he1 : 1 ≤ e := by rw [← he]; exact Plain.star_pos hd
  have HD := Lib.hid (fun W => dollar_any s W true (decide_eq_true hd))
  have h1 := Plain.hexAt_lt hx
  have HS := Lib.hid (fun W => star_any s W e (by rw [he, if_pos (by omega)]))
  have HX := Lib.hid (fun W => hexI_any s[e + 1] W _ rfl)
  have hg := (Plain.hexZ_ge s[e + 1]).2
  rw [Plain.hexAt_get h1] at hx
  have hc := s[e + 1].toNat_lt
  have h2 := Plain.hexAt_lt hy
  have HY := Lib.hid (fun W => hexI_any s[e + 2] W _ rfl)
  have hg2 := (Plain.hexZ_ge s[e + 2]).2
  rw [Plain.hexAt_get h2] at hy
  have hc2 := s[e + 2].toNat_lt
  generalize Plain.hexZ s[e + 1] = z at hx HX hg
  generalize Plain.hexZ s[e + 2] = y at hy HY hg2
  clear hd he
  obtain ⟨q, hq⟩ : ∃ q, 16 * z + y = q := ⟨_, rfl⟩
  have HQ := Lib.hid hq; clear hq
  clear he1
  go_enter Tryz.func30, Tryz.ntmps30
  go_wp2_with fail
  refine (HD.out _).mono ?_
  rintro en w1 ⟨rfl, rfl⟩
  go_wp2_with fail
  refine (HS.out _).mono ?_
  rintro en w1 ⟨rfl, rfl⟩
  go_wp2_with fail
  go_loop [5, 6] (fun m i => (m = .int .i64 0 ∧ i = .int .i64 ((e : Int) + 1)) ∨ (m = .int .i64 z ∧ i = .int .i64 ((e : Int) + 2)) ∨ (m = .int .i64 q ∧ i = .int .i64 ((e : Int) + 3))) (fun _ i => e + 3 - (intOf i).toNat)
  case atStart => exact Or.inl ⟨rfl, rfl⟩
  case round =>
    rcases hrel with ⟨rfl, rfl⟩ | ⟨rfl, rfl⟩ | ⟨rfl, rfl⟩
    · go_wp2_with fail
      refine (HX.out _).mono ?_
      rintro en w1 ⟨rfl, rfl⟩
      go_wp2_with fail
      refine (HX.out _).mono ?_
      rintro en w1 ⟨rfl, rfl⟩
      go_wp2_with fail
      go_round
      case rel => exact Or.inr (Or.inl ⟨by first | rfl | simp, by go_num⟩)
      case measure => simp [intOf]; omega
    · go_wp2_with fail
      refine (HY.out _).mono ?_
      rintro en w1 ⟨rfl, rfl⟩
      go_wp2_with fail
      refine (HY.out _).mono ?_
      rintro en w1 ⟨rfl, rfl⟩
      go_wp2_with fail
      go_round
      case rel => exact Or.inr (Or.inr ⟨by rw [HQ.out], by go_num⟩)
      case measure => simp [intOf]; omega
    · go_wp2_with fail
      exact bodyPost_ret (v := .tuple #[.int .i64 0, .agg #[.int .i64 11, .int .i64 ((e : Int) + 3)]]) (by simp [results, Tryz.results30, go_sem]) rfl ⟨rfl, (Below.refl _ _).alloc (Nat.le_refl _) _⟩
set_option maxHeartbeats 1000000 in
theorem ends_bad (hy : 0 ≤ Plain.hexAt s (e + 2)) (c1 : s.size ≤ e + 3) (hm : (Plain.sumN (s.extract 1 e).data.toList : Int) ≠ 16 * Plain.hexAt s (e + 1) + Plain.hexAt s (e + 2)) :
    Calls Tryz.prog 30 #[.string s] w (EndsPost w 0 14 (e + 1 : Nat)) := by
  have he1 : 1 ≤ e := by rw [← he]; exact Plain.star_pos hd
  have HD := Lib.hid (fun W => dollar_any s W true (decide_eq_true hd))
  have h1 := Plain.hexAt_lt hx
  have HS := Lib.hid (fun W => star_any s W e (by rw [he, if_pos (by omega)]))
  have HX := Lib.hid (fun W => hexI_any s[e + 1] W _ rfl)
  have hg := (Plain.hexZ_ge s[e + 1]).2
  rw [Plain.hexAt_get h1] at hx
  have hc := s[e + 1].toNat_lt
  have h2 := Plain.hexAt_lt hy
  have HY := Lib.hid (fun W => hexI_any s[e + 2] W _ rfl)
  have hg2 := (Plain.hexZ_ge s[e + 2]).2
  rw [Plain.hexAt_get h1, Plain.hexAt_get h2] at hm
  rw [Plain.hexAt_get h2] at hy
  have hc2 := s[e + 2].toNat_lt
  generalize Plain.hexZ s[e + 1] = z at hx HX hg hm
  generalize Plain.hexZ s[e + 2] = y at hy HY hg2 hm
  clear hd he
  obtain ⟨q, hq⟩ : ∃ q, 16 * z + y = q := ⟨_, rfl⟩
  rw [hq] at hm
  have HQ := Lib.hid hq; clear hq
  obtain ⟨F, hF⟩ : ∃ F, s.extract 1 e = F := ⟨_, rfl⟩
  have hFs : F.size ≤ 1000000 := by rw [← hF, ByteArray.size_extract]; omega
  have HM := Lib.hid (fun W => sum_any F W hFs)
  rw [hF] at hm
  have hsb := Plain.sumN_lt F.data.toList
  generalize Plain.sumN F.data.toList = m at hm HM hsb
  have HF := Lib.hid hF; clear hF
  have c3 : ((m : Int) != q) = true := by simpa using hm
  clear hm
  go_enter Tryz.func30, Tryz.ntmps30
  go_wp2_with fail
  refine (HD.out _).mono ?_
  rintro en w1 ⟨rfl, rfl⟩
  go_wp2_with fail
  refine (HS.out _).mono ?_
  rintro en w1 ⟨rfl, rfl⟩
  go_wp2_with fail
  go_loop [5, 6] (fun m i => (m = .int .i64 0 ∧ i = .int .i64 ((e : Int) + 1)) ∨ (m = .int .i64 z ∧ i = .int .i64 ((e : Int) + 2)) ∨ (m = .int .i64 q ∧ i = .int .i64 ((e : Int) + 3))) (fun _ i => e + 3 - (intOf i).toNat)
  case atStart => exact Or.inl ⟨rfl, rfl⟩
  case round =>
    rcases hrel with ⟨rfl, rfl⟩ | ⟨rfl, rfl⟩ | ⟨rfl, rfl⟩
    · go_wp2_with fail
      refine (HX.out _).mono ?_
      rintro en w1 ⟨rfl, rfl⟩
      go_wp2_with fail
      refine (HX.out _).mono ?_
      rintro en w1 ⟨rfl, rfl⟩
      go_wp2_with fail
      go_round
      case rel => exact Or.inr (Or.inl ⟨by first | rfl | simp, by go_num⟩)
      case measure => simp [intOf]; omega
    · go_wp2_with fail
      refine (HY.out _).mono ?_
      rintro en w1 ⟨rfl, rfl⟩
      go_wp2_with fail
      refine (HY.out _).mono ?_
      rintro en w1 ⟨rfl, rfl⟩
      go_wp2_with fail
      go_round
      case rel => exact Or.inr (Or.inr ⟨by rw [HQ.out], by go_num⟩)
      case measure => simp [intOf]; omega
    · have he3 : e ≤ s.size := by omega
      have he3' : (e : Int) ≤ s.size := by omega
      have he1' : (1 : Int) ≤ e := by omega
      go_wp2_with fail
      rw [HF.out]
      refine (HM.out _).mono ?_
      rintro en w1 ⟨rfl, rfl⟩
      go_wp2_with fail
      exact bodyPost_ret (v := .tuple #[.int .i64 0, .agg #[.int .i64 14, .int .i64 ((e : Int) + 1)]]) (by simp [results, Tryz.results30, go_sem]) rfl ⟨rfl, (Below.refl _ _).alloc (Nat.le_refl _) _⟩
set_option maxHeartbeats 1000000 in
theorem ends_ok (hy : 0 ≤ Plain.hexAt s (e + 2)) (c1 : s.size ≤ e + 3) (hm : (Plain.sumN (s.extract 1 e).data.toList : Int) = 16 * Plain.hexAt s (e + 1) + Plain.hexAt s (e + 2)) :
    Calls Tryz.prog 30 #[.string s] w (EndsPost w e 0 0) := by
  have he1 : 1 ≤ e := by rw [← he]; exact Plain.star_pos hd
  have HD := Lib.hid (fun W => dollar_any s W true (decide_eq_true hd))
  have h1 := Plain.hexAt_lt hx
  have HS := Lib.hid (fun W => star_any s W e (by rw [he, if_pos (by omega)]))
  have HX := Lib.hid (fun W => hexI_any s[e + 1] W _ rfl)
  have hg := (Plain.hexZ_ge s[e + 1]).2
  rw [Plain.hexAt_get h1] at hx
  have hc := s[e + 1].toNat_lt
  have h2 := Plain.hexAt_lt hy
  have HY := Lib.hid (fun W => hexI_any s[e + 2] W _ rfl)
  have hg2 := (Plain.hexZ_ge s[e + 2]).2
  rw [Plain.hexAt_get h1, Plain.hexAt_get h2] at hm
  rw [Plain.hexAt_get h2] at hy
  have hc2 := s[e + 2].toNat_lt
  generalize Plain.hexZ s[e + 1] = z at hx HX hg hm
  generalize Plain.hexZ s[e + 2] = y at hy HY hg2 hm
  clear hd he
  obtain ⟨q, hq⟩ : ∃ q, 16 * z + y = q := ⟨_, rfl⟩
  rw [hq] at hm
  have HQ := Lib.hid hq; clear hq
  obtain ⟨F, hF⟩ : ∃ F, s.extract 1 e = F := ⟨_, rfl⟩
  have hFs : F.size ≤ 1000000 := by rw [← hF, ByteArray.size_extract]; omega
  have HM := Lib.hid (fun W => sum_any F W hFs)
  rw [hF] at hm
  have hsb := Plain.sumN_lt F.data.toList
  generalize Plain.sumN F.data.toList = m at hm HM hsb
  have HF := Lib.hid hF; clear hF
  have c3 : ((m : Int) != q) = false := by simpa using hm
  clear hm
  go_enter Tryz.func30, Tryz.ntmps30
  go_wp2_with fail
  refine (HD.out _).mono ?_
  rintro en w1 ⟨rfl, rfl⟩
  go_wp2_with fail
  refine (HS.out _).mono ?_
  rintro en w1 ⟨rfl, rfl⟩
  go_wp2_with fail
  go_loop [5, 6] (fun m i => (m = .int .i64 0 ∧ i = .int .i64 ((e : Int) + 1)) ∨ (m = .int .i64 z ∧ i = .int .i64 ((e : Int) + 2)) ∨ (m = .int .i64 q ∧ i = .int .i64 ((e : Int) + 3))) (fun _ i => e + 3 - (intOf i).toNat)
  case atStart => exact Or.inl ⟨rfl, rfl⟩
  case round =>
    rcases hrel with ⟨rfl, rfl⟩ | ⟨rfl, rfl⟩ | ⟨rfl, rfl⟩
    · go_wp2_with fail
      refine (HX.out _).mono ?_
      rintro en w1 ⟨rfl, rfl⟩
      go_wp2_with fail
      refine (HX.out _).mono ?_
      rintro en w1 ⟨rfl, rfl⟩
      go_wp2_with fail
      go_round
      case rel => exact Or.inr (Or.inl ⟨by first | rfl | simp, by go_num⟩)
      case measure => simp [intOf]; omega
    · go_wp2_with fail
      refine (HY.out _).mono ?_
      rintro en w1 ⟨rfl, rfl⟩
      go_wp2_with fail
      refine (HY.out _).mono ?_
      rintro en w1 ⟨rfl, rfl⟩
      go_wp2_with fail
      go_round
      case rel => exact Or.inr (Or.inr ⟨by rw [HQ.out], by go_num⟩)
      case measure => simp [intOf]; omega
    · have he3 : e ≤ s.size := by omega
      have he3' : (e : Int) ≤ s.size := by omega
      have he1' : (1 : Int) ≤ e := by omega
      go_wp2_with fail
      rw [HF.out]
      refine (HM.out _).mono ?_
      rintro en w1 ⟨rfl, rfl⟩
      go_wp2_with fail
      exact bodyPost_ret (v := .tuple #[.int .i64 e, .agg #[.int .i64 0, .int .i64 (0)]]) (by simp [results, Tryz.results30, go_sem]) rfl ⟨rfl, (Below.refl _ _).alloc (Nat.le_refl _) _⟩
end
/-- ends, at every line. -/
theorem ends_any (s : ByteArray) (w : World) (E : Nat) (er ea : Int) (hr : Plain.endsP s = (E, er, ea)) :
    s.size ≤ 1000000 → Calls Tryz.prog 30 #[.string s] w (EndsPost w E er ea) := by
  intro hs
  unfold Plain.endsP at hr
  by_cases c1 : 500 < s.size
  · rw [if_pos c1] at hr
    simp only [Prod.mk.injEq] at hr
    obtain ⟨rfl, rfl, rfl⟩ := hr
    exact ends_long s w c1
  · rw [if_neg c1] at hr
    by_cases c2 : s.data.toList.head? ≠ some 36
    · rw [if_pos c2] at hr
      simp only [Prod.mk.injEq] at hr
      obtain ⟨rfl, rfl, rfl⟩ := hr
      exact ends_no s w (by omega) c2
    · rw [if_neg c2] at hr
      have c2' : s.data.toList.head? = some 36 := by simpa using c2
      by_cases c3 : Plain.starN s = s.size
      · rw [if_pos c3] at hr
        simp only [Prod.mk.injEq] at hr
        obtain ⟨rfl, rfl, rfl⟩ := hr
        exact ends_nostar s w (by omega) c2' c3
      · rw [if_neg c3] at hr
        have hle := Plain.starN_le s
        by_cases c4 : Plain.hexAt s (Plain.starN s + 1) < 0
        · rw [if_pos c4] at hr
          simp only [Prod.mk.injEq] at hr
          obtain ⟨rfl, rfl, rfl⟩ := hr
          exact ends_d1 s w (by omega) c2' _ rfl (by omega) c4
        · rw [if_neg c4] at hr
          by_cases c5 : Plain.hexAt s (Plain.starN s + 2) < 0
          · rw [if_pos c5] at hr
            simp only [Prod.mk.injEq] at hr
            obtain ⟨rfl, rfl, rfl⟩ := hr
            exact ends_d2 s w (by omega) c2' _ rfl (by omega) c5
          · rw [if_neg c5] at hr
            by_cases c6 : Plain.starN s + 3 < s.size
            · rw [if_pos c6] at hr
              simp only [Prod.mk.injEq] at hr
              obtain ⟨rfl, rfl, rfl⟩ := hr
              exact ends_more s w (by omega) c2' _ rfl (by omega) (by omega) c6
            · rw [if_neg c6] at hr
              by_cases c7 : (Plain.sumN (s.extract 1 (Plain.starN s)).data.toList : Int) ≠ 16 * Plain.hexAt s (Plain.starN s + 1) + Plain.hexAt s (Plain.starN s + 2)
              · rw [if_pos c7] at hr
                simp only [Prod.mk.injEq] at hr
                obtain ⟨rfl, rfl, rfl⟩ := hr
                exact ends_bad s w (by omega) c2' _ rfl (by omega) (by omega) (by omega) c7
              · rw [if_neg c7] at hr
                simp only [Prod.mk.injEq] at hr
                obtain ⟨rfl, rfl, rfl⟩ := hr
                exact ends_ok s w (by omega) c2' _ rfl (by omega) (by omega) (by omega) (by simpa using c7)
end Go.Proofs.YteeekdffbcbamaaGreatDoor
