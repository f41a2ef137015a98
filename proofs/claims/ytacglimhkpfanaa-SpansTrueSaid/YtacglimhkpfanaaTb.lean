/-
  WALKS: Bound, plan, Time, Place (spans and the reference).
-/
import Derived.Test.YtacglimhkpfanaaLenR
import Derived.Test.YtacglimhkpfanaaPlainB
namespace Go.Proofs.Ytacglimhkpfanaa
open Go.RowKit

theorem results_tmp4 {fn : Func} {t u v x : Tmp} (h : fn.results = #[.tmp t, .tmp u, .tmp v, .tmp x]) (tmps : Array Value) (P : Program) (w : World) :
    (results fn tmps).run P w = .ok (.tuple #[tmps.getD t undef, tmps.getD u undef, tmps.getD v undef, tmps.getD x undef]) w := by simp [results, h]

set_option maxHeartbeats 2000000 in
theorem bound12_any (l over : Int) (w : World) : Calls Try.prog 12 #[.int .i64 l, .int .i64 over] w fun e w' => e = .returned (.tuple #[.int .i64 (Plain.bndV l over), .int .i64 (Plain.bndE l over)]) ∧ w = w' := by
  cases hp : Plain.perB l
  · have HP := Lib.hid hp; clear hp
    have e1 := Lib.hid (show Plain.bndV l over = 0 by simp [Plain.bndV, Plain.ovB, HP.out])
    have e2 := Lib.hid (show Plain.bndE l over = 2 by simp [Plain.bndE, Plain.ovB, HP.out])
    go_enter Try.func12, Try.ntmps12
    go_wp2_with (go_at_call 27; refine (period_is l _ HP.out _).mono ?_; rintro e w' ⟨rfl, rfl⟩)
    go_ret2
    exact ⟨by rw [e1.out, e2.out]; rfl, rfl⟩
  · have HP := Lib.hid hp; clear hp
    by_cases h1 : 1 ≤ over
    · skip
      by_cases h2 : over ≤ 8
      · skip
        have e1 := Lib.hid (show Plain.bndV l over = (over * 299792458 + l - 1) / l + 1 by simp [Plain.bndV, Plain.ovB, HP.out, h1, h2, Plain.bnd])
        have e2 := Lib.hid (show Plain.bndE l over = 0 by simp [Plain.bndE, Plain.ovB, HP.out, h1, h2])
        have hl := HP.out
        simp [Plain.perB] at hl
        obtain ⟨hl, hl2⟩ := hl
        have hb := Plain.bnd_hi l over hl h1 h2
        unfold Plain.bnd at hb
        obtain ⟨hb1, hb2⟩ := hb
        go_enter Try.func12, Try.ntmps12
        go_wp2_with (go_at_call 27; refine (period_is l _ HP.out _).mono ?_; rintro e w' ⟨rfl, rfl⟩)
        go_ret2
        exact ⟨by rw [e1.out, e2.out]; rfl, rfl⟩
      · skip
        have e1 := Lib.hid (show Plain.bndV l over = 0 by simp [Plain.bndV, Plain.ovB, h2])
        have e2 := Lib.hid (show Plain.bndE l over = 2 by simp [Plain.bndE, Plain.ovB, h2])
        go_enter Try.func12, Try.ntmps12
        go_wp2_with (go_at_call 27; refine (period_is l _ HP.out _).mono ?_; rintro e w' ⟨rfl, rfl⟩)
        go_ret2
        exact ⟨by rw [e1.out, e2.out]; rfl, rfl⟩
    · skip
      have e1 := Lib.hid (show Plain.bndV l over = 0 by simp [Plain.bndV, Plain.ovB, h1])
      have e2 := Lib.hid (show Plain.bndE l over = 2 by simp [Plain.bndE, Plain.ovB, h1])
      go_enter Try.func12, Try.ntmps12
      go_wp2_with (go_at_call 27; refine (period_is l _ HP.out _).mono ?_; rintro e w' ⟨rfl, rfl⟩)
      go_ret2
      exact ⟨by rw [e1.out, e2.out]; rfl, rfl⟩

set_option maxHeartbeats 2000000 in
theorem bound13_any (l over : Int) (w : World) : Calls Try.prog 13 #[.int .i64 l, .int .i64 over] w fun e w' => e = .returned (.tuple #[.int .i64 (Plain.bndV l over), .int .i64 (Plain.bndE l over)]) ∧ w = w' := by
  cases hp : Plain.perB l
  · have HP := Lib.hid hp; clear hp
    have e1 := Lib.hid (show Plain.bndV l over = 0 by simp [Plain.bndV, Plain.ovB, HP.out])
    have e2 := Lib.hid (show Plain.bndE l over = 2 by simp [Plain.bndE, Plain.ovB, HP.out])
    go_enter Try.func13, Try.ntmps13
    go_wp2_with (go_at_call 30; refine (samples_is l _ HP.out _).mono ?_; rintro e w' ⟨rfl, rfl⟩)
    go_ret2
    exact ⟨by rw [e1.out, e2.out]; rfl, rfl⟩
  · have HP := Lib.hid hp; clear hp
    by_cases h1 : 1 ≤ over
    · skip
      by_cases h2 : over ≤ 8
      · skip
        have e1 := Lib.hid (show Plain.bndV l over = (over * 299792458 + l - 1) / l + 1 by simp [Plain.bndV, Plain.ovB, HP.out, h1, h2, Plain.bnd])
        have e2 := Lib.hid (show Plain.bndE l over = 0 by simp [Plain.bndE, Plain.ovB, HP.out, h1, h2])
        have hl := HP.out
        simp [Plain.perB] at hl
        obtain ⟨hl, hl2⟩ := hl
        have hb := Plain.bnd_hi l over hl h1 h2
        unfold Plain.bnd at hb
        obtain ⟨hb1, hb2⟩ := hb
        go_enter Try.func13, Try.ntmps13
        go_wp2_with (go_at_call 30; refine (samples_is l _ HP.out _).mono ?_; rintro e w' ⟨rfl, rfl⟩)
        go_ret2
        exact ⟨by rw [e1.out, e2.out]; rfl, rfl⟩
      · skip
        have e1 := Lib.hid (show Plain.bndV l over = 0 by simp [Plain.bndV, Plain.ovB, h2])
        have e2 := Lib.hid (show Plain.bndE l over = 2 by simp [Plain.bndE, Plain.ovB, h2])
        go_enter Try.func13, Try.ntmps13
        go_wp2_with (go_at_call 30; refine (samples_is l _ HP.out _).mono ?_; rintro e w' ⟨rfl, rfl⟩)
        go_ret2
        exact ⟨by rw [e1.out, e2.out]; rfl, rfl⟩
    · skip
      have e1 := Lib.hid (show Plain.bndV l over = 0 by simp [Plain.bndV, Plain.ovB, h1])
      have e2 := Lib.hid (show Plain.bndE l over = 2 by simp [Plain.bndE, Plain.ovB, h1])
      go_enter Try.func13, Try.ntmps13
      go_wp2_with (go_at_call 30; refine (samples_is l _ HP.out _).mono ?_; rintro e w' ⟨rfl, rfl⟩)
      go_ret2
      exact ⟨by rw [e1.out, e2.out]; rfl, rfl⟩

theorem plan_is (words perbit : Int) (b : Bool) (h : Plain.planB words perbit = b) (w : World) : Calls Try.prog 32 #[.int .i64 words, .int .i64 perbit] w fun e w' => e = .returned (.bool b) ∧ w = w' := by
  subst h
  by_cases h1 : 2 ≤ words
  · skip
    by_cases h2 : words ≤ 10
    · skip
      by_cases h3 : 1 ≤ perbit
      · skip
        by_cases h4 : perbit ≤ 20
        · skip
          have H := Lib.hid (show Plain.planB words perbit = true by simp [Plain.planB, h1, h2, h3, h4])
          go_enter Try.func32, Try.ntmps32
          go_wp2
          go_ret
          exact ⟨by rw [H.out]; rfl, rfl⟩
        · skip
          have H := Lib.hid (show Plain.planB words perbit = false by simp [Plain.planB, h4])
          go_enter Try.func32, Try.ntmps32
          go_wp2
          go_ret
          exact ⟨by rw [H.out]; rfl, rfl⟩
      · skip
        have H := Lib.hid (show Plain.planB words perbit = false by simp [Plain.planB, h3])
        go_enter Try.func32, Try.ntmps32
        go_wp2
        go_ret
        exact ⟨by rw [H.out]; rfl, rfl⟩
    · skip
      have H := Lib.hid (show Plain.planB words perbit = false by simp [Plain.planB, h2])
      go_enter Try.func32, Try.ntmps32
      go_wp2
      go_ret
      exact ⟨by rw [H.out]; rfl, rfl⟩
  · skip
    have H := Lib.hid (show Plain.planB words perbit = false by simp [Plain.planB, h1])
    go_enter Try.func32, Try.ntmps32
    go_wp2
    go_ret
    exact ⟨by rw [H.out]; rfl, rfl⟩

set_option maxHeartbeats 2000000 in
theorem time15_ok (words perbit f b p : Int) (w : World) (hp : Plain.planB words perbit = true) (h1 : 0 ≤ f) (h2 : 0 ≤ b) (h3 : b < 30 * words) (h4 : 0 ≤ p) (h5 : p < perbit) :
    Calls Try.prog 15 #[.int .i64 words, .int .i64 perbit, .int .i64 f, .int .i64 b, .int .i64 p] w fun e w' => e = .returned (.tuple #[.int .i64 (Plain.tmV words perbit f b p), .int .i64 (Plain.tmE words perbit f b p)]) ∧ w = w' := by
  have hp2 := hp
  simp [Plain.planB] at hp2
  obtain ⟨⟨⟨k1, k2⟩, k3⟩, k4⟩ := hp2
  have ht : Plain.tB words perbit f b p = true := by simp [Plain.tB, hp, h1, h2, h3, h4, h5]
  have HP := Lib.hid hp; clear hp
  have HT := Lib.hid ht; clear ht
  by_cases hf : 604800000 ≤ f
  · have hbig := Int.not_lt.2 (Plain.tm_big words perbit f b p k1 k3 h2 h4 (by omega))
    have e1 := Lib.hid (show Plain.tmV words perbit f b p = 0 by simp [Plain.tmV, hbig])
    have e2 := Lib.hid (show Plain.tmE words perbit f b p = 5 by simp [Plain.tmE, HT.out, hbig])
    clear hbig
    go_enter Try.func15, Try.ntmps15
    go_wp2_with (go_at_call 32; refine (plan_is words perbit _ HP.out _).mono ?_; rintro e w' ⟨rfl, rfl⟩)
    go_ret2
    exact ⟨by rw [e1.out, e2.out]; rfl, rfl⟩
  · obtain ⟨t1, t2, t3, t4⟩ := Plain.tm_bd words perbit f b k1 k2 k3 k4 h2 h3 h1 (by omega)
    by_cases hbig : 604800000 ≤ (f * 30 * words + b) * perbit + p
    · have hge : ¬ Plain.tm words perbit f b p < 604800000 := by unfold Plain.tm; omega
      have e1 := Lib.hid (show Plain.tmV words perbit f b p = 0 by simp [Plain.tmV, hge])
      have e2 := Lib.hid (show Plain.tmE words perbit f b p = 5 by simp [Plain.tmE, HT.out, hge])
      clear hge
      go_enter Try.func15, Try.ntmps15
      go_wp2_with (go_at_call 32; refine (plan_is words perbit _ HP.out _).mono ?_; rintro e w' ⟨rfl, rfl⟩)
      go_ret2
      exact ⟨by rw [e1.out, e2.out]; rfl, rfl⟩
    · have hlt : (f * 30 * words + b) * perbit + p < 604800000 := by omega
      have e1 := Lib.hid (show Plain.tmV words perbit f b p = (f * 30 * words + b) * perbit + p by simp [Plain.tmV, HT.out, Plain.tm, hlt])
      have e2 := Lib.hid (show Plain.tmE words perbit f b p = 0 by simp [Plain.tmE, HT.out, Plain.tm, hlt])
      clear hlt
      go_enter Try.func15, Try.ntmps15
      go_wp2_with (go_at_call 32; refine (plan_is words perbit _ HP.out _).mono ?_; rintro e w' ⟨rfl, rfl⟩)
      go_ret2
      exact ⟨by rw [e1.out, e2.out]; rfl, rfl⟩

set_option maxHeartbeats 2000000 in
theorem time15_any (words perbit f b p : Int) (w : World) : Calls Try.prog 15 #[.int .i64 words, .int .i64 perbit, .int .i64 f, .int .i64 b, .int .i64 p] w fun e w' => e = .returned (.tuple #[.int .i64 (Plain.tmV words perbit f b p), .int .i64 (Plain.tmE words perbit f b p)]) ∧ w = w' := by
  cases hp : Plain.planB words perbit
  · have HP := Lib.hid hp; clear hp
    have e1 := Lib.hid (show Plain.tmV words perbit f b p = 0 by simp [Plain.tmV, Plain.tB, HP.out])
    have e2 := Lib.hid (show Plain.tmE words perbit f b p = 2 by simp [Plain.tmE, Plain.tB, HP.out])
    go_enter Try.func15, Try.ntmps15
    go_wp2_with (go_at_call 32; refine (plan_is words perbit _ HP.out _).mono ?_; rintro e w' ⟨rfl, rfl⟩)
    go_ret2
    exact ⟨by rw [e1.out, e2.out]; rfl, rfl⟩
  · have hp2 := hp
    simp [Plain.planB] at hp2
    obtain ⟨⟨⟨k1, k2⟩, k3⟩, k4⟩ := hp2
    by_cases h1 : 0 ≤ f
    · skip
      by_cases h2 : 0 ≤ b
      · skip
        by_cases h3 : b < 30 * words
        · skip
          by_cases h4 : 0 ≤ p
          · skip
            by_cases h5 : p < perbit
            · skip
              exact time15_ok words perbit f b p w hp h1 h2 h3 h4 h5
            · skip
              have HP := Lib.hid hp; clear hp
              have e1 := Lib.hid (show Plain.tmV words perbit f b p = 0 by simp [Plain.tmV, Plain.tB, h5])
              have e2 := Lib.hid (show Plain.tmE words perbit f b p = 2 by simp [Plain.tmE, Plain.tB, h5])
              go_enter Try.func15, Try.ntmps15
              go_wp2_with (go_at_call 32; refine (plan_is words perbit _ HP.out _).mono ?_; rintro e w' ⟨rfl, rfl⟩)
              go_ret2
              exact ⟨by rw [e1.out, e2.out]; rfl, rfl⟩
          · skip
            have HP := Lib.hid hp; clear hp
            have e1 := Lib.hid (show Plain.tmV words perbit f b p = 0 by simp [Plain.tmV, Plain.tB, h4])
            have e2 := Lib.hid (show Plain.tmE words perbit f b p = 2 by simp [Plain.tmE, Plain.tB, h4])
            go_enter Try.func15, Try.ntmps15
            go_wp2_with (go_at_call 32; refine (plan_is words perbit _ HP.out _).mono ?_; rintro e w' ⟨rfl, rfl⟩)
            go_ret2
            exact ⟨by rw [e1.out, e2.out]; rfl, rfl⟩
        · skip
          have HP := Lib.hid hp; clear hp
          have e1 := Lib.hid (show Plain.tmV words perbit f b p = 0 by simp [Plain.tmV, Plain.tB, h3])
          have e2 := Lib.hid (show Plain.tmE words perbit f b p = 2 by simp [Plain.tmE, Plain.tB, h3])
          go_enter Try.func15, Try.ntmps15
          go_wp2_with (go_at_call 32; refine (plan_is words perbit _ HP.out _).mono ?_; rintro e w' ⟨rfl, rfl⟩)
          go_ret2
          exact ⟨by rw [e1.out, e2.out]; rfl, rfl⟩
      · skip
        have HP := Lib.hid hp; clear hp
        have e1 := Lib.hid (show Plain.tmV words perbit f b p = 0 by simp [Plain.tmV, Plain.tB, h2])
        have e2 := Lib.hid (show Plain.tmE words perbit f b p = 2 by simp [Plain.tmE, Plain.tB, h2])
        go_enter Try.func15, Try.ntmps15
        go_wp2_with (go_at_call 32; refine (plan_is words perbit _ HP.out _).mono ?_; rintro e w' ⟨rfl, rfl⟩)
        go_ret2
        exact ⟨by rw [e1.out, e2.out]; rfl, rfl⟩
    · skip
      have HP := Lib.hid hp; clear hp
      have e1 := Lib.hid (show Plain.tmV words perbit f b p = 0 by simp [Plain.tmV, Plain.tB, h1])
      have e2 := Lib.hid (show Plain.tmE words perbit f b p = 2 by simp [Plain.tmE, Plain.tB, h1])
      go_enter Try.func15, Try.ntmps15
      go_wp2_with (go_at_call 32; refine (plan_is words perbit _ HP.out _).mono ?_; rintro e w' ⟨rfl, rfl⟩)
      go_ret2
      exact ⟨by rw [e1.out, e2.out]; rfl, rfl⟩

set_option maxHeartbeats 2000000 in
theorem time16_ok (words perbit f b p : Int) (w : World) (h1 : 2 ≤ words) (h2 : words ≤ 10) (h3 : 1 ≤ perbit) (h4 : perbit ≤ 20) (h5 : 0 ≤ f) (h6 : 0 ≤ b) (h7 : b < 30 * words) (h8 : 0 ≤ p) (h9 : p < perbit) :
    Calls Try.prog 16 #[.int .i64 words, .int .i64 perbit, .int .i64 f, .int .i64 b, .int .i64 p] w fun e w' => e = .returned (.tuple #[.int .i64 (Plain.tmV words perbit f b p), .int .i64 (Plain.tmE words perbit f b p)]) ∧ w = w' := by
  have ht : Plain.tB words perbit f b p = true := by simp [Plain.tB, Plain.planB, h1, h2, h3, h4, h5, h6, h7, h8, h9]
  have HT := Lib.hid ht; clear ht
  by_cases hf : 604800000 < f
  · have hbig := Int.not_lt.2 (Plain.tm_big words perbit f b p h1 h3 h6 h8 (by omega))
    have e1 := Lib.hid (show Plain.tmV words perbit f b p = 0 by simp [Plain.tmV, hbig])
    have e2 := Lib.hid (show Plain.tmE words perbit f b p = 5 by simp [Plain.tmE, HT.out, hbig])
    clear hbig
    go_enter Try.func16, Try.ntmps16
    go_wp2_with fail
    go_ret2
    exact ⟨by rw [e1.out, e2.out]; rfl, rfl⟩
  · obtain ⟨t1, t2, t3, t4⟩ := Plain.tm_bd words perbit f b h1 h2 h3 h4 h6 h7 h5 (by omega)
    by_cases hbig : 604800000 ≤ (f * 30 * words + b) * perbit + p
    · have hge : ¬ Plain.tm words perbit f b p < 604800000 := by unfold Plain.tm; omega
      have e1 := Lib.hid (show Plain.tmV words perbit f b p = 0 by simp [Plain.tmV, hge])
      have e2 := Lib.hid (show Plain.tmE words perbit f b p = 5 by simp [Plain.tmE, HT.out, hge])
      clear hge
      go_enter Try.func16, Try.ntmps16
      go_wp2_with fail
      go_ret2
      exact ⟨by rw [e1.out, e2.out]; rfl, rfl⟩
    · have hlt : (f * 30 * words + b) * perbit + p < 604800000 := by omega
      have e1 := Lib.hid (show Plain.tmV words perbit f b p = (f * 30 * words + b) * perbit + p by simp [Plain.tmV, HT.out, Plain.tm, hlt])
      have e2 := Lib.hid (show Plain.tmE words perbit f b p = 0 by simp [Plain.tmE, HT.out, Plain.tm, hlt])
      clear hlt
      go_enter Try.func16, Try.ntmps16
      go_wp2_with fail
      go_ret2
      exact ⟨by rw [e1.out, e2.out]; rfl, rfl⟩

set_option maxHeartbeats 2000000 in
theorem time16_any (words perbit f b p : Int) (w : World) : Calls Try.prog 16 #[.int .i64 words, .int .i64 perbit, .int .i64 f, .int .i64 b, .int .i64 p] w fun e w' => e = .returned (.tuple #[.int .i64 (Plain.tmV words perbit f b p), .int .i64 (Plain.tmE words perbit f b p)]) ∧ w = w' := by
  by_cases h1 : 2 ≤ words
  · skip
    by_cases h2 : words ≤ 10
    · skip
      by_cases h3 : 1 ≤ perbit
      · skip
        by_cases h4 : perbit ≤ 20
        · skip
          by_cases h5 : 0 ≤ f
          · skip
            by_cases h6 : 0 ≤ b
            · skip
              by_cases h7 : b < 30 * words
              · skip
                by_cases h8 : 0 ≤ p
                · skip
                  by_cases h9 : p < perbit
                  · skip
                    exact time16_ok words perbit f b p w h1 h2 h3 h4 h5 h6 h7 h8 h9
                  · skip
                    have e1 := Lib.hid (show Plain.tmV words perbit f b p = 0 by simp [Plain.tmV, Plain.tB, h9])
                    have e2 := Lib.hid (show Plain.tmE words perbit f b p = 2 by simp [Plain.tmE, Plain.tB, h9])
                    go_enter Try.func16, Try.ntmps16
                    go_wp2_with fail
                    go_ret2
                    exact ⟨by rw [e1.out, e2.out]; rfl, rfl⟩
                · skip
                  have e1 := Lib.hid (show Plain.tmV words perbit f b p = 0 by simp [Plain.tmV, Plain.tB, h8])
                  have e2 := Lib.hid (show Plain.tmE words perbit f b p = 2 by simp [Plain.tmE, Plain.tB, h8])
                  go_enter Try.func16, Try.ntmps16
                  go_wp2_with fail
                  go_ret2
                  exact ⟨by rw [e1.out, e2.out]; rfl, rfl⟩
              · skip
                have e1 := Lib.hid (show Plain.tmV words perbit f b p = 0 by simp [Plain.tmV, Plain.tB, h7])
                have e2 := Lib.hid (show Plain.tmE words perbit f b p = 2 by simp [Plain.tmE, Plain.tB, h7])
                go_enter Try.func16, Try.ntmps16
                go_wp2_with fail
                go_ret2
                exact ⟨by rw [e1.out, e2.out]; rfl, rfl⟩
            · skip
              have e1 := Lib.hid (show Plain.tmV words perbit f b p = 0 by simp [Plain.tmV, Plain.tB, h6])
              have e2 := Lib.hid (show Plain.tmE words perbit f b p = 2 by simp [Plain.tmE, Plain.tB, h6])
              go_enter Try.func16, Try.ntmps16
              go_wp2_with fail
              go_ret2
              exact ⟨by rw [e1.out, e2.out]; rfl, rfl⟩
          · skip
            have e1 := Lib.hid (show Plain.tmV words perbit f b p = 0 by simp [Plain.tmV, Plain.tB, h5])
            have e2 := Lib.hid (show Plain.tmE words perbit f b p = 2 by simp [Plain.tmE, Plain.tB, h5])
            go_enter Try.func16, Try.ntmps16
            go_wp2_with fail
            go_ret2
            exact ⟨by rw [e1.out, e2.out]; rfl, rfl⟩
        · skip
          have e1 := Lib.hid (show Plain.tmV words perbit f b p = 0 by simp [Plain.tmV, Plain.tB, Plain.planB, h4])
          have e2 := Lib.hid (show Plain.tmE words perbit f b p = 2 by simp [Plain.tmE, Plain.tB, Plain.planB, h4])
          go_enter Try.func16, Try.ntmps16
          go_wp2_with fail
          go_ret2
          exact ⟨by rw [e1.out, e2.out]; rfl, rfl⟩
      · skip
        have e1 := Lib.hid (show Plain.tmV words perbit f b p = 0 by simp [Plain.tmV, Plain.tB, Plain.planB, h3])
        have e2 := Lib.hid (show Plain.tmE words perbit f b p = 2 by simp [Plain.tmE, Plain.tB, Plain.planB, h3])
        go_enter Try.func16, Try.ntmps16
        go_wp2_with fail
        go_ret2
        exact ⟨by rw [e1.out, e2.out]; rfl, rfl⟩
    · skip
      have e1 := Lib.hid (show Plain.tmV words perbit f b p = 0 by simp [Plain.tmV, Plain.tB, Plain.planB, h2])
      have e2 := Lib.hid (show Plain.tmE words perbit f b p = 2 by simp [Plain.tmE, Plain.tB, Plain.planB, h2])
      go_enter Try.func16, Try.ntmps16
      go_wp2_with fail
      go_ret2
      exact ⟨by rw [e1.out, e2.out]; rfl, rfl⟩
  · skip
    have e1 := Lib.hid (show Plain.tmV words perbit f b p = 0 by simp [Plain.tmV, Plain.tB, Plain.planB, h1])
    have e2 := Lib.hid (show Plain.tmE words perbit f b p = 2 by simp [Plain.tmE, Plain.tB, Plain.planB, h1])
    go_enter Try.func16, Try.ntmps16
    go_wp2_with fail
    go_ret2
    exact ⟨by rw [e1.out, e2.out]; rfl, rfl⟩

set_option maxHeartbeats 2000000 in
theorem place17_any (words perbit ms : Int) (w : World) : Calls Try.prog 17 #[.int .i64 words, .int .i64 perbit, .int .i64 ms] w fun e w' => e = .returned (.tuple #[.int .i64 (Plain.plF words perbit ms), .int .i64 (Plain.plB words perbit ms), .int .i64 (Plain.plP words perbit ms), .int .i64 (Plain.plE words perbit ms)]) ∧ Below w.heap.size w w' := by
  cases hp : Plain.planB words perbit
  · have HP := Lib.hid hp; clear hp
    have e1 := Lib.hid (show Plain.plF words perbit ms = 0 by simp [Plain.plF, Plain.pB, HP.out])
    have e2 := Lib.hid (show Plain.plB words perbit ms = 0 by simp [Plain.plB, Plain.pB, HP.out])
    have e3 := Lib.hid (show Plain.plP words perbit ms = 0 by simp [Plain.plP, Plain.pB, HP.out])
    have e4 := Lib.hid (show Plain.plE words perbit ms = 2 by simp [Plain.plE, Plain.pB, HP.out])
    go_enter Try.func17, Try.ntmps17
    go_wp2_with (go_at_call 32; refine (plan_is words perbit _ HP.out _).mono ?_; rintro e w' ⟨rfl, rfl⟩)
    refine bodyPost_ret (results_tmp4 rfl _ _ _) rfl ?_
    exact ⟨by rw [e1.out, e2.out, e3.out, e4.out]; rfl, Below.refl _ _⟩
  · have hb := hp
    simp [Plain.planB] at hb
    obtain ⟨⟨⟨k1, k2⟩, k3⟩, k4⟩ := hb
    have HP := Lib.hid hp; clear hp
    by_cases h1 : 0 ≤ ms
    · skip
      by_cases h2 : ms < 604800000
      · skip
        have hb : Plain.pB words perbit ms = true := by simp [Plain.pB, HP.out, h1, h2]
        have HB := Lib.hid hb; clear hb
        have e1 := Lib.hid (show Plain.plF words perbit ms = ms / perbit / (30 * words) by simp [Plain.plF, HB.out])
        have e2 := Lib.hid (show Plain.plB words perbit ms = ms / perbit % (30 * words) by simp [Plain.plB, HB.out])
        have e3 := Lib.hid (show Plain.plP words perbit ms = ms % perbit by simp [Plain.plP, HB.out])
        have e4 := Lib.hid (show Plain.plE words perbit ms = 0 by simp [Plain.plE, HB.out])
        have q0 : 0 ≤ ms / perbit := Int.ediv_nonneg (by omega) (by omega)
        have q1 : ms / perbit ≤ ms := Int.ediv_le_self _ (by omega)
        go_enter Try.func17, Try.ntmps17
        go_wp2_with (go_at_call 32; refine (plan_is words perbit _ HP.out _).mono ?_; rintro e w' ⟨rfl, rfl⟩)
        go_quiet (fail)
        go_wp2_with fail
        refine bodyPost_ret (results_tmp4 rfl _ _ _) rfl ?_
        exact ⟨by rw [e1.out, e2.out, e3.out, e4.out]; rfl, below_drewN (Below.refl _ _) _⟩
      · skip
        have e1 := Lib.hid (show Plain.plF words perbit ms = 0 by simp [Plain.plF, Plain.pB, h2])
        have e2 := Lib.hid (show Plain.plB words perbit ms = 0 by simp [Plain.plB, Plain.pB, h2])
        have e3 := Lib.hid (show Plain.plP words perbit ms = 0 by simp [Plain.plP, Plain.pB, h2])
        have e4 := Lib.hid (show Plain.plE words perbit ms = 2 by simp [Plain.plE, Plain.pB, h2])
        go_enter Try.func17, Try.ntmps17
        go_wp2_with (go_at_call 32; refine (plan_is words perbit _ HP.out _).mono ?_; rintro e w' ⟨rfl, rfl⟩)
        refine bodyPost_ret (results_tmp4 rfl _ _ _) rfl ?_
        exact ⟨by rw [e1.out, e2.out, e3.out, e4.out]; rfl, Below.refl _ _⟩
    · skip
      have e1 := Lib.hid (show Plain.plF words perbit ms = 0 by simp [Plain.plF, Plain.pB, h1])
      have e2 := Lib.hid (show Plain.plB words perbit ms = 0 by simp [Plain.plB, Plain.pB, h1])
      have e3 := Lib.hid (show Plain.plP words perbit ms = 0 by simp [Plain.plP, Plain.pB, h1])
      have e4 := Lib.hid (show Plain.plE words perbit ms = 2 by simp [Plain.plE, Plain.pB, h1])
      go_enter Try.func17, Try.ntmps17
      go_wp2_with (go_at_call 32; refine (plan_is words perbit _ HP.out _).mono ?_; rintro e w' ⟨rfl, rfl⟩)
      refine bodyPost_ret (results_tmp4 rfl _ _ _) rfl ?_
      exact ⟨by rw [e1.out, e2.out, e3.out, e4.out]; rfl, Below.refl _ _⟩

set_option maxHeartbeats 2000000 in
theorem place18_any (words perbit ms : Int) (w : World) : Calls Try.prog 18 #[.int .i64 words, .int .i64 perbit, .int .i64 ms] w fun e w' => e = .returned (.tuple #[.int .i64 (Plain.plF words perbit ms), .int .i64 (Plain.plB words perbit ms), .int .i64 (Plain.plP words perbit ms), .int .i64 (Plain.plE words perbit ms)]) ∧ Below w.heap.size w w' := by
  by_cases h1 : 2 ≤ words
  · skip
    by_cases h2 : words ≤ 10
    · skip
      by_cases h3 : 1 ≤ perbit
      · skip
        by_cases h4 : perbit ≤ 20
        · skip
          by_cases h5 : 0 ≤ ms
          · skip
            by_cases h6 : ms < 604800000
            · skip
              have hb : Plain.pB words perbit ms = true := by simp [Plain.pB, Plain.planB, h1, h2, h3, h4, h5, h6]
              have HB := Lib.hid hb; clear hb
              have e1 := Lib.hid (show Plain.plF words perbit ms = ms / perbit / (30 * words) by simp [Plain.plF, HB.out])
              have e2 := Lib.hid (show Plain.plB words perbit ms = ms / perbit % (30 * words) by simp [Plain.plB, HB.out])
              have e3 := Lib.hid (show Plain.plP words perbit ms = ms % perbit by simp [Plain.plP, HB.out])
              have e4 := Lib.hid (show Plain.plE words perbit ms = 0 by simp [Plain.plE, HB.out])
              have q0 : 0 ≤ ms / perbit := Int.ediv_nonneg (by omega) (by omega)
              have q1 : ms / perbit ≤ ms := Int.ediv_le_self _ (by omega)
              go_enter Try.func18, Try.ntmps18
              go_wp2_with fail
              go_quiet (fail)
              go_wp2_with fail
              refine bodyPost_ret (results_tmp4 rfl _ _ _) rfl ?_
              exact ⟨by rw [e1.out, e2.out, e3.out, e4.out]; rfl, below_drewN (Below.refl _ _) _⟩
            · skip
              have e1 := Lib.hid (show Plain.plF words perbit ms = 0 by simp [Plain.plF, Plain.pB, h6])
              have e2 := Lib.hid (show Plain.plB words perbit ms = 0 by simp [Plain.plB, Plain.pB, h6])
              have e3 := Lib.hid (show Plain.plP words perbit ms = 0 by simp [Plain.plP, Plain.pB, h6])
              have e4 := Lib.hid (show Plain.plE words perbit ms = 2 by simp [Plain.plE, Plain.pB, h6])
              go_enter Try.func18, Try.ntmps18
              go_wp2_with fail
              refine bodyPost_ret (results_tmp4 rfl _ _ _) rfl ?_
              exact ⟨by rw [e1.out, e2.out, e3.out, e4.out]; rfl, Below.refl _ _⟩
          · skip
            have e1 := Lib.hid (show Plain.plF words perbit ms = 0 by simp [Plain.plF, Plain.pB, h5])
            have e2 := Lib.hid (show Plain.plB words perbit ms = 0 by simp [Plain.plB, Plain.pB, h5])
            have e3 := Lib.hid (show Plain.plP words perbit ms = 0 by simp [Plain.plP, Plain.pB, h5])
            have e4 := Lib.hid (show Plain.plE words perbit ms = 2 by simp [Plain.plE, Plain.pB, h5])
            go_enter Try.func18, Try.ntmps18
            go_wp2_with fail
            refine bodyPost_ret (results_tmp4 rfl _ _ _) rfl ?_
            exact ⟨by rw [e1.out, e2.out, e3.out, e4.out]; rfl, Below.refl _ _⟩
        · skip
          have e1 := Lib.hid (show Plain.plF words perbit ms = 0 by simp [Plain.plF, Plain.pB, Plain.planB, h4])
          have e2 := Lib.hid (show Plain.plB words perbit ms = 0 by simp [Plain.plB, Plain.pB, Plain.planB, h4])
          have e3 := Lib.hid (show Plain.plP words perbit ms = 0 by simp [Plain.plP, Plain.pB, Plain.planB, h4])
          have e4 := Lib.hid (show Plain.plE words perbit ms = 2 by simp [Plain.plE, Plain.pB, Plain.planB, h4])
          go_enter Try.func18, Try.ntmps18
          go_wp2_with fail
          refine bodyPost_ret (results_tmp4 rfl _ _ _) rfl ?_
          exact ⟨by rw [e1.out, e2.out, e3.out, e4.out]; rfl, Below.refl _ _⟩
      · skip
        have e1 := Lib.hid (show Plain.plF words perbit ms = 0 by simp [Plain.plF, Plain.pB, Plain.planB, h3])
        have e2 := Lib.hid (show Plain.plB words perbit ms = 0 by simp [Plain.plB, Plain.pB, Plain.planB, h3])
        have e3 := Lib.hid (show Plain.plP words perbit ms = 0 by simp [Plain.plP, Plain.pB, Plain.planB, h3])
        have e4 := Lib.hid (show Plain.plE words perbit ms = 2 by simp [Plain.plE, Plain.pB, Plain.planB, h3])
        go_enter Try.func18, Try.ntmps18
        go_wp2_with fail
        refine bodyPost_ret (results_tmp4 rfl _ _ _) rfl ?_
        exact ⟨by rw [e1.out, e2.out, e3.out, e4.out]; rfl, Below.refl _ _⟩
    · skip
      have e1 := Lib.hid (show Plain.plF words perbit ms = 0 by simp [Plain.plF, Plain.pB, Plain.planB, h2])
      have e2 := Lib.hid (show Plain.plB words perbit ms = 0 by simp [Plain.plB, Plain.pB, Plain.planB, h2])
      have e3 := Lib.hid (show Plain.plP words perbit ms = 0 by simp [Plain.plP, Plain.pB, Plain.planB, h2])
      have e4 := Lib.hid (show Plain.plE words perbit ms = 2 by simp [Plain.plE, Plain.pB, Plain.planB, h2])
      go_enter Try.func18, Try.ntmps18
      go_wp2_with fail
      refine bodyPost_ret (results_tmp4 rfl _ _ _) rfl ?_
      exact ⟨by rw [e1.out, e2.out, e3.out, e4.out]; rfl, Below.refl _ _⟩
  · skip
    have e1 := Lib.hid (show Plain.plF words perbit ms = 0 by simp [Plain.plF, Plain.pB, Plain.planB, h1])
    have e2 := Lib.hid (show Plain.plB words perbit ms = 0 by simp [Plain.plB, Plain.pB, Plain.planB, h1])
    have e3 := Lib.hid (show Plain.plP words perbit ms = 0 by simp [Plain.plP, Plain.pB, Plain.planB, h1])
    have e4 := Lib.hid (show Plain.plE words perbit ms = 2 by simp [Plain.plE, Plain.pB, Plain.planB, h1])
    go_enter Try.func18, Try.ntmps18
    go_wp2_with fail
    refine bodyPost_ret (results_tmp4 rfl _ _ _) rfl ?_
    exact ⟨by rw [e1.out, e2.out, e3.out, e4.out]; rfl, Below.refl _ _⟩

end Go.Proofs.Ytacglimhkpfanaa
