/-
  WALK: SpansAll returns true.
-/
import Derived.Test.YtacglimhkpfanaaAllE
import Derived.Test.YtacglimhkpfanaaStartR
import Derived.Test.YtacglimhkpfanaaSameW
namespace Go.Proofs.Ytacglimhkpfanaa
open Go.RowKit

theorem wpList_append_opt {P : Program} {w : World} {ops : Array Oper} {rest : List Oper} {o : Oper} {a : Act} {Q : Exit → Act → World → Prop} (hgd : o.guard = none) (s x : Operand) (t : TypeId)
    (ho : o.op = .call { callee := .builtin .append, args := #[s, x], argTypes := #[t, t] })
    (base : Nat) (e : TypeId) (i : TypeInfo) (z : Value) (size bytes : Nat) (ht : P.underlying t = some (.slice e)) (hi : P.info? e = some i) (hz : i.zero = some z)
    (hsize : i.size = size) (hby : i.bytes = bytes) (hzs : z.cells.size = size) (hsz : 0 < size)
    (v : Value) (n : Nat) (xs : List Value) (hs : a.eval s = v) (hown : w.ownsRow base e size v n xs)
    (A : Option Addr) (m c : Nat) (news : List Value) (hx : a.eval x = .slice A m c) (hA : A = none → m = 0 ∧ c = 0) (hl : news.length = m * size)
    (hnews : ∀ ad, A = some ad → ∀ j u, news[j]? = some u → w.cell? (ad.add j) = some u) (h1 : ∀ u ∈ news, u.oneCell' = true)
    (h63 : n + m ≤ maxLen) (hbytes : (n + m) * bytes ≤ 140737488355328) (hbase : base ≤ w.heap.size) (hv : v ≠ .slice none 0 0)
    (h : ∀ v' w', w'.ownsRow base e size v' (n + m) (xs ++ news) → w.grownBy w' v.ownBlock → v' ≠ .slice none 0 0 → wpList P ops Q rest (a.put o.dst v') w') : wpList P ops Q (o :: rest) a w := by
  cases A with
  | none =>
    obtain ⟨rfl, rfl⟩ := hA rfl
    have hn : news = [] := List.length_eq_zero_iff.1 (by omega)
    subst hn
    refine wpList_append_own_none hgd s x t ho base e i size ht hi v n xs hs hown hx ?_
    exact h v w (by simpa using hown) (grownBy_refl _ _) hv
  | some ad =>
    exact wpList_append_own _ hgd s x t ho base e i z size bytes ht hi hz hsize hby hzs hsz v n xs hs hown ad m c news hx hl (hnews ad rfl) h1 h63 hbytes hbase (fun v' w' h2 h3 h4 => h v' w' h2 h3 (fun e => hv ((h4.1 e).1)))

theorem info23 : (Try.prog.info? 23).map (fun i => (i.zero, i.size, i.bytes)) = some (some (.agg #[.int .i64 0, .int .i64 0, .int .i64 0]), 3, 24) := by kernel_rfl
theorem own_e23 (w : World) (base : Nat) (hb : base ≤ w.heap.size) : (w.alloc (.cells #[] 23)).ownsRow base 23 3 (.slice (some ⟨w.heap.size, 0, none⟩) 0 0) 0 [] :=
  ⟨by simp, Or.inr ⟨w.heap.size, 0, #[], rfl, hb, heap_new _ _, Nat.le_refl _, by unfold maxLen; omega, by simp, by simp⟩⟩
/-- A row of the call's own that is not nil reads as its list. -/
theorem own_some {w : World} {base n : Nat} {v : Value} {e : TypeId} {L : List Plain.Tri} (h : w.ownsRow base e 3 v n (flat3 L)) (hv : v ≠ .slice none 0 0) :
    L.length = n ∧ ∃ g cap, v = .slice (some ⟨g, 0, none⟩) n cap ∧ base ≤ g ∧ g < w.heap.size ∧ Reads3 w w.heap.size (some ⟨g, 0, none⟩) L := by
  have hl : L.length = n := by have := h.1; rw [flat3_length] at this; omega
  refine ⟨hl, ?_⟩
  rcases h.2 with ⟨h0, _⟩ | ⟨g, cap, cur, rfl, hge, hh, hnc, hcm, hcs, htk⟩
  · exact absurd h0 hv
  · have hg : g < w.heap.size := by
      rcases Nat.lt_or_ge g w.heap.size with hlt | hge'
      · exact hlt
      · rw [Array.getElem?_eq_none hge'] at hh
        cases hh
    refine ⟨g, cap, rfl, hge, hg, Reads3.mk hg fun j hj => ?_⟩
    have hc : ∀ i u, (flat3 L)[i]? = some u → w.cell? ⟨g, i, none⟩ = some u := fun i u hu => by
      have hi : i < n * 3 := by
        have := (List.getElem?_eq_some_iff.1 hu).1
        rw [flat3_length] at this
        omega
      have e : cur[i]? = some u := by
        rw [← htk, List.getElem?_take, if_pos hi] at hu
        simpa using hu
      simp [World.cell?, hh, e]
    obtain ⟨h0, h1, h2⟩ := flat3_get L j hj
    rw [add0, add0, add0]
    exact ⟨hc _ _ h0, hc _ _ h1, hc _ _ h2⟩
/-- What a slice reads as, cell by cell. -/
theorem Reads3.flat {w : World} {B : Nat} {A : Option Addr} {cs : List Plain.Tri} (h : Reads3 w B A cs) : ∀ ad, A = some ad → ∀ j u, (flat3 cs)[j]? = some u → w.cell? (ad.add j) = some u := by
  intro ad e j u hu
  have hj : j < cs.length * 3 := by
    have := (List.getElem?_eq_some_iff.1 hu).1
    rwa [flat3_length] at this
  obtain ⟨ad', e', _, h0, h1, h2⟩ := h (j / 3) (by omega)
  rw [e] at e'
  cases e'
  rw [← at1 ad (j / 3 * 3) 0] at h1
  rw [← at1 ad (j / 3 * 3) 1] at h2
  obtain ⟨f0, f1, f2⟩ := flat3_get cs (j / 3) (by omega)
  have hm : j % 3 = 0 ∨ j % 3 = 1 ∨ j % 3 = 2 := by omega
  rcases hm with hm | hm | hm
  · rw [show j / 3 * 3 = j by omega] at f0 h0
    rw [hu] at f0
    cases f0
    exact h0
  · rw [show j / 3 * 3 + 1 = j by omega] at f1
    rw [show j / 3 * 3 + (0 + 1) = j by omega] at h1
    rw [hu] at f1
    cases f1
    exact h1
  · rw [show j / 3 * 3 + 2 = j by omega] at f2
    rw [show j / 3 * 3 + (1 + 1) = j by omega] at h2
    rw [hu] at f2
    cases f2
    exact h2

theorem spansAll_long (l over rx : Int) (A : Option Addr) (k c : Nat) (w : World) (hk : 30 < k) :
    Calls Try.prog 5 #[.int .i64 l, .int .i64 over, .int .i64 rx, .slice A k c] w fun e w' => e = .returned (.bool true) ∧ Below w.heap.size w w' := by
  go_enter Try.func5, Try.ntmps5
  go_wp2_with fail
  refine (awake_any _).mono ?_
  rintro e w1 ⟨rfl, hb1⟩
  go_wp2_with fail
  go_ret
  exact ⟨rfl, hb1⟩

set_option maxHeartbeats 4000000 in
theorem spansAll_walk (l over rx : Int) (A : Option Addr) (k c : Nat) (cs : List Plain.Tri) (w : World) (hl : cs.length = k) (hA : A = none → k = 0 ∧ c = 0) (hr : Reads3 w w.heap.size A cs) :
    Calls Try.prog 5 #[.int .i64 l, .int .i64 over, .int .i64 rx, .slice A k c] w fun e w' => e = .returned (.bool true) ∧ Below w.heap.size w w' := by
  by_cases hk : 30 < k
  · exact spansAll_long l over rx A k c w hk
  have hk' : k ≤ 30 := by omega
  clear hk
  obtain ⟨V, hV⟩ : ∃ v, Plain.allV l over rx cs = v := ⟨_, rfl⟩
  obtain ⟨E, hE⟩ : ∃ v, Plain.allE l over rx cs = v := ⟨_, rfl⟩
  obtain ⟨M, hM⟩ : ∃ v, Plain.startV l cs = v := ⟨_, rfl⟩
  obtain ⟨F, hF⟩ : ∃ v, Plain.startE l cs = v := ⟨_, rfl⟩
  have H19 := Lib.hid (fun A' c' W h => all19_any l over rx A' k c' cs W hl h V E hV hE)
  have H20 := Lib.hid (fun W h => all20_any l over rx A k c cs W hl h V E hV hE)
  have H21 := Lib.hid (fun g cap (W : World) h hg => start21_any l ⟨g, 0, none⟩ k cap cs W rfl hl (by omega) h hg M F hM hF)
  have H22 := Lib.hid (fun W h => start22_any l A k c cs W hl (by omega) h M F hM hF)
  have hvl : V.length ≤ 30 := by
    rw [← hV]
    unfold Plain.allV
    split
    · rw [Plain.srt_length, List.length_map, hl]; exact hk'
    · simp
  have HVL := Lib.hid hvl; clear hvl
  clear hV hE hM hF
  have HL := Lib.hid hl; clear hl
  have HR := Lib.hid hr; clear hr
  have HA := Lib.hid hA; clear hA
  obtain ⟨i0, hi, hz0, hz1, hz2⟩ := info_parts info23
  go_enter Try.func5, Try.ntmps5
  go_wp2_with (at_builtin; refine wpList_append_opt rfl _ _ 34 rfl w.heap.size 23 i0 (.agg #[.int .i64 0, .int .i64 0, .int .i64 0]) 3 24 Try.underlying34 hi hz0 hz1 hz2 rfl (by decide) (.slice (some ⟨w.heap.size, 0, none⟩) 0 0) 0 [] rfl (own_e23 w w.heap.size (Nat.le_refl _)) A k c (flat3 cs) rfl HA.out ?c1 ?c2 (flat3_one _) ?c3 ?c4 ?c5 (by simp) ?_; rotate_left 5; intro v5 w5 ho5 hg5 hv5)
  case c1 => rw [flat3_length, HL.out]
  case c2 => exact (HR.out.below (below1 w _) (Nat.le_refl _)).flat
  case c3 => unfold maxLen; omega
  case c4 => omega
  have hB5 := ((below1 w (.cells #[] 23)).grown hg5 (by simp) (fun r hr => by cases hr; exact Nat.le_refl _))
  simp only [List.nil_append, Nat.zero_add] at ho5
  obtain ⟨_, g, cap, rfl, hge, hg, hr5⟩ := own_some ho5 hv5
  clear hv5 ho5 hg5
  have HR5 := Lib.hid hr5; clear hr5
  have HB5 := Lib.hid hB5; clear hB5
  go_wp2_with fail
  refine (H19.out _ _ _ HR5.out).mono ?_
  rintro e w6 ⟨A1, n1, c1, rfl, hn1, hr6, hb6⟩
  have HN1 := Lib.hid hn1; clear hn1
  have HR6 := Lib.hid hr6; clear hr6
  have HB6 := Lib.hid hb6; clear hb6
  have B6 := Lib.hid (HB5.out.trans (HB6.out.mono HB5.out.size))
  go_wp2_with fail
  refine (H20.out _ ((HR.out.below B6.out (Nat.le_refl _)).more B6.out.size)).mono ?_
  rintro e w7 ⟨A2, n2, c2, rfl, hn2, hr7, hb7⟩
  have HN2 := Lib.hid hn2; clear hn2
  have HR7 := Lib.hid hr7; clear hr7
  have HB7 := Lib.hid hb7; clear hb7
  have B7 := Lib.hid (B6.out.trans (HB7.out.mono B6.out.size))
  have C7 := Lib.hid (HB6.out.trans (HB7.out.mono HB6.out.size))
  go_wp2_with fail
  refine (H21.out g cap _ ((HR5.out.below C7.out (Nat.le_refl _)).more C7.out.size) (Nat.lt_of_lt_of_le hg C7.out.size)).mono ?_
  rintro e w8 ⟨rfl, hb8⟩
  have HB8 := Lib.hid hb8; clear hb8
  have B8 := Lib.hid (B7.out.trans (HB8.out.mono B7.out.size))
  have C8 := Lib.hid (C7.out.trans (HB8.out.mono C7.out.size))
  go_wp2_with fail
  refine (H22.out _ ((HR.out.below B8.out (Nat.le_refl _)).more B8.out.size)).mono ?_
  rintro e w9 ⟨rfl, hb9⟩
  have HB9 := Lib.hid hb9; clear hb9
  have B9 := Lib.hid (B8.out.trans (HB9.out.mono B8.out.size))
  have C9 := Lib.hid (C8.out.trans (HB9.out.mono C8.out.size))
  have D9 := Lib.hid (HB8.out.trans (HB9.out.mono HB8.out.size))
  have X9 := Lib.hid (HR6.out.below (HB7.out.trans (D9.out.mono HB7.out.size)) (Nat.le_refl _))
  have Y9 := Lib.hid (HR7.out.below D9.out (Nat.le_refl _))
  go_wp2_with fail
  go_loopw [18] (fun i wr => ∃ j : Nat, j ≤ k ∧ i = .int .i64 j ∧ Below w9.heap.size w9 wr) (fun i _ => k - (intOf i).toNat)
  case atStart => exact ⟨0, Nat.zero_le _, rfl, Below.refl _ _⟩
  case round =>
    obtain ⟨j, hj, rfl, hB⟩ := hrel
    by_cases hlt : j < k
    · have hjl : j < cs.length := by rw [HL.out]; exact hlt
      obtain ⟨ad, hA, _, a0, a1, a2⟩ := (HR.out.below (B9.out.trans (hB.mono B9.out.size)) (Nat.le_refl _)) j hjl
      obtain ⟨ad', hA', _, b0, b1, b2⟩ := (HR5.out.below (C9.out.trans (hB.mono C9.out.size)) (Nat.le_refl _)) j hjl
      subst hA
      cases hA'
      generalize cs[j] = x at a0 a1 a2 b0 b1 b2
      obtain ⟨x0, x1, x2⟩ := x
      simp only [add0] at a0 a1 a2 b0 b1 b2
      have q0 : (x0 == x0) = true := beq_iff_eq.2 rfl
      have q1 : (x1 == x1) = true := beq_iff_eq.2 rfl
      have q2 : (x2 == x2) = true := beq_iff_eq.2 rfl
      have HB := Lib.hid hB; clear hB
      go_wp2_with fail
      go_quiet (fail)
      go_wp2_with fail
      go_roundw
      case rel => exact ⟨j + 1, by omega, by go_num, below_drewN HB.out _⟩
      case measure => simp [intOf]; omega
    · have HB := Lib.hid hB; clear hB
      have qE : (E == E) = true := beq_iff_eq.2 rfl
      have qM : (M == M) = true := beq_iff_eq.2 rfl
      have qF : (F == F) = true := beq_iff_eq.2 rfl
      obtain rfl : n1 = n2 := by rw [← HN1.out, ← HN2.out]
      have HS := Lib.hid (same23_yes A1 A2 n1 c1 c2 V wr ((X9.out.below HB.out (by have := (HB7.out.trans (D9.out.mono HB7.out.size)).size; omega)).more (by have := (HB7.out.trans (D9.out.mono HB7.out.size)).size; have := HB.out.size; omega)) ((Y9.out.below HB.out D9.out.size).more (by have := D9.out.size; have := HB.out.size; omega)) HN1.out (by have := HVL.out; have := HN1.out; omega))
      go_wp2_with fail
      refine HS.out.mono ?_
      rintro e w10 ⟨rfl, hb10⟩
      have HB10 := Lib.hid hb10; clear hb10
      go_wp2_with fail
      refine (awake_any _).mono ?_
      rintro e w11 ⟨rfl, hb11⟩
      go_wp2_with fail
      go_ret
      have k1 := B9.out.trans (HB.out.mono B9.out.size)
      have k2 := k1.trans (HB10.out.mono k1.size)
      exact ⟨rfl, k2.trans (hb11.mono k2.size)⟩
end Go.Proofs.Ytacglimhkpfanaa
