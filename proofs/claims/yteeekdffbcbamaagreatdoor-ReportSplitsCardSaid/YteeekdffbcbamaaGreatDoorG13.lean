/-
  WALKS: Split of any text, of the program and of the reference (ReportSplits).
-/
import Derived.Test.YteeekdffbcbamaaGreatDoorSnRd
import Derived.Test.YteeekdffbcbamaaGreatDoorParsesW
import Derived.Test.YteeekdffbcbamaaGreatDoorSplitR
namespace Go.Proofs.YteeekdffbcbamaaGreatDoor
open Go.RowKit Go.Shelf
attribute [local go_sem] Oper.semAt_some
/-- Sentences, the numbers of the lines that are none, and an error, as Split hands them over. -/
def SplPost (w : World) (r : List Plain.Sn × List Int × Int) (en : Ending) (w' : World) : Prop :=
  ∃ A c A3 c3 es, en = .returned (.tuple #[.slice A r.1.length c, .slice A3 r.2.1.length c3, .int .i64 r.2.2]) ∧ SnAt w' A es ∧ es.map (·.1) = r.1 ∧ PrL w' A3 r.2.1 ∧ Below w.heap.size w w'
namespace Plain
def split (s : ByteArray) : List Sn × List Int × Int := if s.size ≤ 100000 then (goodL (lines s), badL (lines s), 0) else ([], [], 4)
theorem split_prns (s : ByteArray) : ∀ x ∈ (split s).1, x.prns.length ≤ 9223372036854775807 := by
  unfold split
  split
  · intro x hx
    obtain ⟨a, _, ha⟩ := List.mem_filterMap.1 hx
    split at ha
    · injection ha with ha
      rw [← ha]
      exact parse_len a.2
    · cases ha
  · intro x hx
    cases hx
theorem split_len (s : ByteArray) : (split s).1.length ≤ 100000 ∧ (split s).2.1.length ≤ 100000 := by
  unfold split
  split
  · have h1 := good_len (lines s)
    have h2 := lines_len s
    exact ⟨by show (goodL (lines s)).length ≤ _; omega, by show (badL (lines s)).length ≤ _; omega⟩
  · exact ⟨by decide, by decide⟩
end Plain
theorem splPost_short {B : Nat} {w w' : World} {s : ByteArray} {v2 v3 : Value} {es : List (Plain.Sn × Value)} (hs : s.size ≤ 100000) (hS : SnR B w' v2 v3 es (Plain.badL (Plain.lines s))) (hE : es.map (·.1) = Plain.goodL (Plain.lines s)) (hb : Below w.heap.size w w') :
    SplPost w (Plain.split s) (.returned (.tuple #[v2, v3, .int .i64 0])) w' := by
  unfold Plain.split
  rw [if_pos hs]
  obtain ⟨A, c, rfl, hA⟩ := hS.reads
  obtain ⟨A3, c3, rfl⟩ := own_formQ hS.2.1
  have h3 := own_PrL (own_less hS.2.1 (Nat.zero_le _))
  have hl : es.length = (Plain.goodL (Plain.lines s)).length := by rw [← hE, List.length_map]
  rw [hl]
  exact ⟨A, c, A3, c3, es, rfl, hA, hE, h3, hb⟩
theorem splPost_long {w w' : World} {s : ByteArray} (hs : ¬ s.size ≤ 100000) (hb : Below w.heap.size w w') : SplPost w (Plain.split s) (.returned (.tuple #[.slice none 0 0, .slice none 0 0, .int .i64 4])) w' := by
  unfold Plain.split
  rw [if_neg hs]
  exact ⟨none, 0, none, 0, [], rfl, fun j hj => absurd hj (by simp), rfl, PrL.nil _ _, hb⟩
set_option maxRecDepth 100000 in
set_option maxHeartbeats 4000000 in
theorem split_long (s : ByteArray) (w : World) (hs : ¬ s.size ≤ 100000) : Calls Tryz.prog 10 #[.string s] w (SplPost w (Plain.split s)) := by
  have hs2 : (100000 : Int) < s.size := by omega
  have HS := Lib.hid hs; clear hs
  refine (callsIn_wide (n := 3)).1 ?_
  refine callsIn_of_wp_marks Tryz.func10 rfl trivial ?_ rfl
  simp only [Tryz.ntmps10, List.size_toArray, List.length_cons, List.length_nil, Nat.reduceAdd, Nat.reduceSub, Array.replicate_succ, Array.replicate_zero, List.push_toArray, List.append_toArray, List.nil_append, List.cons_append]
  gi_wp2_with fail
  have hc2 := ((Boxed.new w 23 (.slice none 0 0)).alloc (.cells #[.slice none 0 0] 22)).cell
  have hc3 := (Boxed.new (w.alloc (.cells #[.slice none 0 0] 23)) 22 (.slice none 0 0)).cell
  rw [World.size_alloc] at hc3
  refine ⟨.tuple #[.slice none 0 0, .slice none 0 0, .int .i64 4], ?_, splPost_long HS.out (((Below.refl _ _).alloc (Nat.le_refl _) _).alloc (by simp) _)⟩
  simp [results, Tryz.results10, go_sem, hc2, hc3]
set_option maxRecDepth 100000 in
set_option maxHeartbeats 4000000 in
theorem rsplit_long (s : ByteArray) (w : World) (hs : ¬ s.size ≤ 100000) : Calls Tryz.prog 24 #[.string s] w (SplPost w (Plain.split s)) := by
  have hs2 : (100000 : Int) < s.size := by omega
  have HS := Lib.hid hs; clear hs
  go_enter Tryz.func24, Tryz.ntmps24
  go_wp2_with fail
  go_ret3
  exact splPost_long HS.out (Below.refl _ _)
theorem split_all (s : ByteArray) (w : World) (he : Env w) : Calls Tryz.prog 10 #[.string s] w (SplPost w (Plain.split s)) := by
  by_cases hs : s.size ≤ 100000
  · refine (split_any s w he hs).mono ?_
    rintro en w' ⟨v2, v3, es, rfl, hS, hE, hb⟩
    exact splPost_short hs hS hE hb
  · exact split_long s w hs
theorem rsplit_all (s : ByteArray) (w : World) : Calls Tryz.prog 24 #[.string s] w (SplPost w (Plain.split s)) := by
  by_cases hs : s.size ≤ 100000
  · refine (rsplit_any s w hs).mono ?_
    rintro en w' ⟨v2, v3, es, rfl, hS, hE, hb⟩
    exact splPost_short hs hS hE hb
  · exact rsplit_long s w hs
end Go.Proofs.YteeekdffbcbamaaGreatDoor
/-
  WALKS: the law ReportSplits.
-/
namespace Go.Proofs.YteeekdffbcbamaaGreatDoor
open Go.RowKit
set_option maxRecDepth 100000 in
set_option maxHeartbeats 4000000 in
theorem splits_of (s : ByteArray) (w : World) (he : Env w) : Calls Tryz.prog 6 #[.string s] w fun en w' => en = .returned (.bool true) ∧ Below w.heap.size w w' := by
  have HA := Lib.hid (fun W he => awake_any W he)
  have HP1 := Lib.hid (split_all s w he)
  have HP2 := Lib.hid (fun W => rsplit_all s W)
  have hpr := Plain.split_prns s
  have hln := Plain.split_len s
  have HE := Lib.hid he; clear he
  by_cases hl : (3000 < s.size ∧ s.size ≤ 100000) ∨ 100010 < s.size
  · by_cases h1 : (100010 : Int) < s.size
    · have h2 : (3000 : Int) < s.size := by omega
      have h3 : ¬ (s.size : Int) ≤ 100000 := by omega
      clear hl hpr hln
      go_enter Tryz.func6, Tryz.ntmps6
      go_wp2_with fail
      refine (HA.out w HE.out).mono ?_
      rintro en w1 ⟨rfl, hb1⟩
      go_wp2_with fail
      go_ret
      exact ⟨rfl, hb1⟩
    · have h2 : (3000 : Int) < s.size := by omega
      have h3 : (s.size : Int) ≤ 100000 := by omega
      clear hl hpr hln
      go_enter Tryz.func6, Tryz.ntmps6
      go_wp2_with fail
      refine (HA.out w HE.out).mono ?_
      rintro en w1 ⟨rfl, hb1⟩
      go_wp2_with fail
      go_ret
      exact ⟨rfl, hb1⟩
  · generalize Plain.split s = r at HP1 HP2 hpr hln
    obtain ⟨G, B, er⟩ := r
    simp only at hpr hln
    have h4 : ((er : Int) == er) = true := by simp
    by_cases h2 : (3000 : Int) < s.size
    all_goals
      have h3 : ¬ ((3000 : Int) < s.size ∧ (s.size : Int) ≤ 100000) := by omega
      have h1 : ¬ (100010 : Int) < s.size := by omega
      have h5 : (3000 : Int) < s.size → ¬ (s.size : Int) ≤ 100000 := by omega
      try (have h6 : ¬ (s.size : Int) ≤ 100000 := by omega)
      clear hl
      have HPR := Lib.hid hpr
      have HLN := Lib.hid hln
      clear hpr hln
      go_enter Tryz.func6, Tryz.ntmps6
      go_wp2_with fail
      refine HP1.out.mono ?_
      rintro en w1 ⟨A1, c1, A3, c3, es1, rfl, hA1, hE1, hP3, hb1⟩
      simp only at hE1 hP3
      have HA1 := Lib.hid hA1
      have HE1 := Lib.hid hE1
      have HP3 := Lib.hid hP3
      have HB1 := Lib.hid hb1
      clear hA1 hE1 hP3 hb1 HP1
      simp only
      go_wp2_with fail
      refine (HP2.out w1).mono ?_
      rintro en w2 ⟨A2, c2, A4, c4, es2, rfl, hA2, hE2, hP4, hb2⟩
      simp only at hE2 hP4
      have hA12 := HA1.out.below hb2
      have hP32 := HP3.out.below hb2 (Nat.le_refl _)
      have hL1 : es1.length = G.length := by rw [← HE1.out, List.length_map]
      have hL2 : es2.length = G.length := by rw [← hE2, List.length_map]
      have HSA := Lib.hid (sameAll_any es1 es2 A1 A2 G.length c1 c2 w2 hL1 hL2 (by have := HLN.out.1; omega) (fun e h => HPR.out e.1 (by rw [← HE1.out]; exact List.mem_map_of_mem h)) (HE1.out.trans hE2.symm) hA12 hA2)
      have HP32 := Lib.hid hP32
      have HP42 := Lib.hid hP4
      have HB2 := Lib.hid (HB1.out.trans (hb2.mono HB1.out.size))
      clear hA2 hE2 hP4 hb2 hA12 hP32 hL1 hL2 HP2
      simp only
      go_wp2_with fail
      refine HSA.out.mono ?_
      rintro en w3 ⟨rfl, hb3⟩
      have HAL := Lib.hid (alike_eq B A3 A4 B.length c3 c4 w3 rfl (by have := HLN.out.2; omega) (HP32.out.below hb3 (Nat.le_refl _)) (HP42.out.below hb3 (Nat.le_refl _)))
      have HB3 := Lib.hid (HB2.out.trans (hb3.mono HB2.out.size))
      clear hb3 HSA HP32 HP42
      go_wp2_with fail
      refine HAL.out.mono ?_
      rintro en w4 ⟨rfl, kk, rfl⟩
      have hB4 : Below w.heap.size w (w3.drewN kk) := HB3.out.trans ⟨rfl, rfl, rfl, Nat.le_refl _, fun _ _ => rfl⟩
      clear HAL HB3
      generalize w3.drewN kk = w5 at *
      have HB5 := Lib.hid hB4; clear hB4
      go_wp2_with fail
      refine (HA.out w5 (HE.out.below HB5.out HE.out.1)).mono ?_
      rintro en w6 ⟨rfl, hb⟩
      have HB6 := Lib.hid (HB5.out.trans (hb.mono HB5.out.size)); clear hb HB5
      go_wp2_with fail
      go_ret
      exact ⟨rfl, HB6.out⟩
end Go.Proofs.YteeekdffbcbamaaGreatDoor
