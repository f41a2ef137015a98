/-
  WALKS: the sentences of a text, and the numbers of the lines that are none (package report: Split).
-/
import Derived.Test.YteeekdffbcbamaaGreatDoorG12
namespace Go.Proofs.YteeekdffbcbamaaGreatDoor
open Go.RowKit Go.Shelf
attribute [local go_sem] Oper.semAt_some

/-- What Split comes to. -/
def SplitPost (w : World) (xs : List (Nat × ByteArray)) (en : Ending) (w' : World) : Prop :=
  ∃ v2 v3 es, en = .returned (.tuple #[v2, v3, .int .i64 0]) ∧ SnR (w.heap.size + 3) w' v2 v3 es (Plain.badL xs) ∧ es.map (·.1) = Plain.goodL xs ∧ Below w.heap.size w w'
set_option maxRecDepth 100000 in
set_option maxHeartbeats 4000000 in
theorem split_any (s : ByteArray) (w : World) (he : Env w) (hs : s.size ≤ 100000) : Calls Tryz.prog 10 #[.string s] w (SplitPost w (Plain.lines s)) := by
  have hs2 : ¬ (100000 : Int) < s.size := by omega
  refine (callsIn_wide (n := 3)).1 ?_
  refine callsIn_of_wp_marks Tryz.func10 rfl trivial ?_ rfl
  simp only [Tryz.ntmps10, List.size_toArray, List.length_cons, List.length_nil, Nat.reduceAdd, Nat.reduceSub, Array.replicate_succ, Array.replicate_zero, List.push_toArray, List.append_toArray, List.nil_append, List.cons_append]
  gi_wp2_with (refine ⟨trivial, ?_⟩; gi_at_call 28; refine (callsIn_wide.2 (pieces_any s _)).mono ?_; rintro e w1 ⟨rfl, rfl⟩)
  obtain ⟨w3, hw3⟩ : ∃ w3, ((w.alloc (.cells #[.slice none 0 0] 23)).alloc (.cells #[.slice none 0 0] 22)).alloc (.cells #[.string s] 9) = w3 := ⟨_, rfl⟩
  have hsz : w3.heap.size = w.heap.size + 3 := by rw [← hw3]; simp
  have hB3 : Below w.heap.size w w3 := hw3 ▸ ((((Below.refl _ _).alloc (Nat.le_refl _) _).alloc (by simp) _).alloc (by simp; omega) _)
  have hx2 : Boxed w3 w.heap.size 23 (.slice none 0 0) := hw3 ▸ ((Boxed.new w _ _).alloc _).alloc _
  have hx3 : Boxed w3 (w.heap.size + 1) 22 (.slice none 0 0) := by
    rw [← hw3]
    have := Boxed.new (w.alloc (.cells #[.slice none 0 0] 23)) 22 (.slice none 0 0)
    rw [World.size_alloc] at this
    exact this.alloc _
  have hxb : w3.heap[w.heap.size + 2]? = some (.cells #[.string s] 9 (0, 0)) := by
    rw [← hw3]
    have := World.alloc_heap_new ((w.alloc (.cells #[.slice none 0 0] 23)).alloc (.cells #[.slice none 0 0] 22)) (.cells #[.string s] 9)
    rw [World.size_alloc, World.size_alloc] at this
    exact this
  rw [hw3]
  clear hw3
  have hS0 : SplI w [] w3 := ⟨.slice none 0 0, .slice none 0 0, [], hx2, hx3, ⟨World.ownsRow_nil _ _ _ _, World.ownsRow_nil _ _ _ _, fun e h => by simp at h⟩, rfl, hB3, by omega⟩
  have HE := Lib.hid he
  have HS := Lib.hid hs
  clear hx2 hx3 hB3 he hs hs2
  refine wpIn_rangeBox (gf := 49) (lb := #[.pointer (some ⟨w.heap.size + 2, 0, none⟩)]) rfl (enters_of Tryz.func49 (by kernel_rfl) rfl) (encs := lineEnc) (fun _ => rfl) (w.heap.size + 2) (by omega) (Plain.lines s)
    (pieces_iter (w.heap.size + 2) s w3 (by have := HS.out; omega) hxb) (SplI w) (splI_own w _ (by omega)) hS0
    (fun x => { tmps := #[.string s, undef, .pointer (some ⟨w.heap.size, 0, none⟩), .pointer (some ⟨w.heap.size + 1, 0, none⟩), .int .i64 0, .int .i64 (x.1 : Int), .string x.2, undef, undef, .string s, .int .i64 s.size, .bool false, .string s, .func (.func 49) #[] #[.pointer (some ⟨w.heap.size + 1 + 1, 0, none⟩)], .int .i64 (x.1 : Int), .string x.2, undef, undef, undef, undef, undef, undef, undef, undef, undef, undef, undef, undef, undef, undef, undef, undef, undef, undef], defers := [] }) ?assign ?body ?done
  case assign =>
    intro l x W K hK
    simp only [lineEnc]
    gi_wp2
    exact hK
  case body =>
    rintro l pre ⟨i, p⟩ W hI hpre
    obtain ⟨v2, v3, es, h2, h3, hS, hE, hb, hwz⟩ := hI
    have hps : p.size ≤ 1000000 := by
      have h1 := Plain.lines_size s (i, p) (hpre.subset (by simp))
      have h2 : p.size ≤ s.size := h1
      have := HS.out
      omega
    have hlen : pre.length < 100000 := by
      have h1 := hpre.length_le
      have h2 := Plain.lines_len s
      have := HS.out
      simp at h1
      omega
    obtain ⟨te, pe, hV⟩ := (HE.out.below hb HE.out.1).2.2
    have hP := parse_any p W hps te pe hV (by have := HE.out.1; have := hb.size; omega)
    have hgy := Plain.goodL_yes (pre := pre) (x := (i, p))
    have hgn := Plain.goodL_no (pre := pre) (x := (i, p))
    have hgl := Plain.good_len pre
    simp only at hgy hgn
    generalize Plain.parse p = r at *
    obtain ⟨sn, er, ea⟩ := r
    simp only at hgy hgn
    have HP := Lib.hid hP
    have HGY := Lib.hid hgy
    have HGN := Lib.hid hgn
    have HS2 := Lib.hid hS
    have HE2 := Lib.hid hE
    have HB := Lib.hid hb
    clear hP hgy hgn hS hE hb hpre hV
    gi_wp2
    refine ⟨trivial, ?_⟩
    refine (CallsIn.inRound l (callsIn_wide.2 HP.out)).mono ?_
    rintro en w5 ⟨v5, rfl, ho5, hb5⟩
    obtain ⟨A5, c5, rfl⟩ := own_formQ ho5
    unfold snCells
    have HO5 := Lib.hid ho5
    have HB5 := Lib.hid hb5
    clear ho5 hb5 HP
    have hl5 : w.heap.size + 3 ≤ w5.heap.size := Nat.le_trans hwz HB5.out.size
    have h25 : Boxed w5 w.heap.size 23 v2 := (HB5.out.block _ h2.lt).trans h2
    have h35 : Boxed w5 (w.heap.size + 1) 22 v3 := (HB5.out.block _ h3.lt).trans h3
    have c2 := h25.cell
    have c3 := h35.cell
    have f2 := h25.frozen
    have f3 := h35.frozen
    have hl2 : w.heap.size < w5.heap.size := by omega
    have hl3 : w.heap.size + 1 < w5.heap.size := by omega
    have H2 := Lib.hid h2
    have H3 := Lib.hid h3
    have H25 := Lib.hid h25
    have H35 := Lib.hid h35
    clear h2 h3 h25 h35
    have HS5 := Lib.hid (HS2.out.below HB5.out)
    by_cases her : er = 0
    · subst her
      have hq : ((0 : Int) != 0) = false := rfl
      have hg' := HGY.out rfl
      have HG := Lib.hid hg'; clear hg'
      obtain ⟨i0, hi, hz0, hz1, hz2⟩ := info_parts infoSn
      have hlenE : es.length ≤ pre.length := by
        have := congrArg List.length HE2.out
        rw [List.length_map] at this
        omega
      have HLE := Lib.hid hlenE; clear hlenE
      gi_wp2_with (gi_at_builtin; refine wpListIn_append_own_at _ rfl _ _ 23 rfl (w.heap.size + 3) 28 i0 (.agg #[.int .i64 0, .int .i64 0, .bool false, .int .i64 0, .int .i64 0, .int .i64 0, .int .i64 0, .int .i64 0, .int .i64 0, .slice none 0 0, .int .i64 0, .int .i64 0, .int .i64 0, .string ⟨#[]⟩]) 14 136 Tryz.underlying23 hi hz0 hz1 hz2 rfl (by decide) _ _ _ rfl (((HS5.out.1.alloc _).alloc _).alloc _) ⟨w5.heap.size + 1 + 1, 0, none⟩ 1 1 (#[.int .i64 sn.kind, .int .i64 sn.time, .bool sn.ok, .int .i64 sn.p0, .int .i64 sn.p1, .int .i64 sn.p2, .int .i64 sn.l0, .int .i64 sn.l1, .int .i64 sn.l2, .slice A5 sn.prns.length c5, .int .i64 sn.prn, .int .i64 sn.lag, .int .i64 sn.power, .string sn.text] : Array Value).toList rfl rfl ?_ ?_ ?_ ?_ ?_ ?_; rotate_left 5; intro v' w9 hown9 hg9 _ _; have h29 := Boxed.kept (((H25.out.alloc _).alloc _).alloc _) hg9 (Ne.symm (own_ne HS5.out.1 (by omega))); have c29 := h29.cell; have f29 := h29.frozen; clear h29; obtain ⟨g', cap', rfl⟩ := ownsRow_succ hown9; have HOW := Lib.hid hown9; clear hown9; have HG9 := Lib.hid hg9; clear hg9)
      rotate_left 1
      · simp [Value.oneCell']
      · have := HLE.out; simp only [maxLen]; omega
      · have := HLE.out; omega
      · simp; omega
      try rw [hsz]
      exact splI_good H2.out H3.out HS2.out HE2.out HB.out hwz HB5.out HO5.out ((((Below.refl _ w5).alloc (Nat.le_refl _) _).alloc (by simp) _).alloc (by simp; omega) _) HG9.out HOW.out HG.out
    · have hq : (er != 0) = true := by simpa using her
      have hg' := HGN.out her
      have HG := Lib.hid hg'; clear hg'
      obtain ⟨i0, hi, hz0, hz1, hz2⟩ := info_parts info3
      gi_wp2_with (gi_at_builtin; refine wpListIn_append_own_at _ rfl _ _ 22 rfl (w.heap.size + 3) 3 i0 (.int .i64 0) 1 8 Tryz.underlying22 hi hz0 hz1 hz2 rfl (by decide) _ _ _ rfl (((HS5.out.2.1.alloc _).alloc _).alloc _) ⟨w5.heap.size + 1 + 1, 0, none⟩ 1 1 [.int .i64 (i : Int)] rfl rfl ?_ ?_ ?_ ?_ ?_ ?_; rotate_left 5; intro v' w9 hown9 hg9 _ hat9; have h39 := Boxed.kept (((H35.out.alloc _).alloc _).alloc _) hg9 (Ne.symm (own_ne HS5.out.2.1 (by omega))); have c39 := h39.cell; have f39 := h39.frozen; clear h39; obtain ⟨g', cap', rfl⟩ := ownsRow_succ hown9; have HOW := Lib.hid hown9; clear hown9; have HG9 := Lib.hid hg9; clear hg9; have HAT := Lib.hid hat9; clear hat9)
      rotate_left 1
      · exact cell_new_at _ _ _ _ (by simp)
      · simp [Value.oneCell']
      · simp only [maxLen]; omega
      · omega
      · simp; omega
      try rw [hsz]
      exact splI_bad H2.out H3.out HS2.out HE2.out HB.out hwz (HB5.out.trans (((((Below.refl _ w5).alloc (Nat.le_refl _) _).alloc (by simp) _).alloc (by simp; omega) _).mono HB5.out.size)) HG9.out HOW.out HAT.out HG.out
  case done =>
    rintro D W hD hI hK
    obtain ⟨v2, v3, es, h2, h3, hS, hE, hb, hwz⟩ := hI
    obtain ⟨A2, k2, rfl⟩ := own_formQ hS.1
    obtain ⟨A3, k3, rfl⟩ := own_formQ hS.2.1
    have c2 := h2.cell
    have c3 := h3.cell
    have f2 := h2.frozen
    have f3 := h3.frozen
    have H2 := Lib.hid h2
    have H3 := Lib.hid h3
    have HS2 := Lib.hid hS
    have HE2 := Lib.hid hE
    have HB := Lib.hid hb
    have HK := Lib.hid hK
    clear h2 h3 hS hE hb hK hS0 hxb
    gi_wp2
    gi_region
    have h10 : Boxed ((W.setCell ⟨w.heap.size, 0, none⟩ (.slice A2 es.length k2)).setCell ⟨w.heap.size + 1, 0, none⟩ (.slice A3 (Plain.badL (Plain.lines s)).length k3)) w.heap.size 23 (.slice A2 es.length k2) :=
      (H2.out.set _).kept (grownBy_setCell' _ (w.heap.size + 1) _) (by simp)
    have h11 : Boxed ((W.setCell ⟨w.heap.size, 0, none⟩ (.slice A2 es.length k2)).setCell ⟨w.heap.size + 1, 0, none⟩ (.slice A3 (Plain.badL (Plain.lines s)).length k3)) (w.heap.size + 1) 22 (.slice A3 (Plain.badL (Plain.lines s)).length k3) :=
      (H3.out.kept (grownBy_setCell' W w.heap.size _) (by simp)).set _
    have hS10 : SnR (w.heap.size + 3) ((W.setCell ⟨w.heap.size, 0, none⟩ (.slice A2 es.length k2)).setCell ⟨w.heap.size + 1, 0, none⟩ (.slice A3 (Plain.badL (Plain.lines s)).length k3)) (.slice A2 es.length k2) (.slice A3 (Plain.badL (Plain.lines s)).length k3) es (Plain.badL (Plain.lines s)) :=
      (HS2.out.low (grownBy_setCell' W w.heap.size _) (fun r e => by cases e; omega)).low (grownBy_setCell' _ (w.heap.size + 1) _) (fun r e => by cases e; omega)
    have hB10 : Below w.heap.size w ((W.setCell ⟨w.heap.size, 0, none⟩ (.slice A2 es.length k2)).setCell ⟨w.heap.size + 1, 0, none⟩ (.slice A3 (Plain.badL (Plain.lines s)).length k3)) :=
      (HB.out.setCell (Nat.le_refl _) _).setCell (by simp) _
    have hK10 : ((W.setCell ⟨w.heap.size, 0, none⟩ (.slice A2 es.length k2)).setCell ⟨w.heap.size + 1, 0, none⟩ (.slice A3 (Plain.badL (Plain.lines s)).length k3)).heap[D]? = some (.deferred (some [])) :=
      ((Below.heap_setCell _ _ _ D (by show D ≠ w.heap.size + 1; omega)).trans (Below.heap_setCell _ _ _ D (by show D ≠ w.heap.size; omega))).trans HK.out
    generalize ((W.setCell ⟨w.heap.size, 0, none⟩ (.slice A2 es.length k2)).setCell ⟨w.heap.size + 1, 0, none⟩ (.slice A3 (Plain.badL (Plain.lines s)).length k3)) = W9 at *
    obtain ⟨W10, hW10⟩ : ∃ W10, W9.drew = W10 := ⟨_, rfl⟩
    have HS10 := Lib.hid (show SnR (w.heap.size + 3) W10 (.slice A2 es.length k2) (.slice A3 (Plain.badL (Plain.lines s)).length k3) es (Plain.badL (Plain.lines s)) from hW10 ▸ hS10)
    have HB10 := Lib.hid (show Below w.heap.size w W10 from hW10 ▸ Below.drew hB10)
    have HK10 := Lib.hid (show W10.heap[D]? = some (.deferred (some [])) from hW10 ▸ hK10)
    have H10 := Lib.hid (show Boxed W10 w.heap.size 23 (.slice A2 es.length k2) from hW10 ▸ h10)
    have H11 := Lib.hid (show Boxed W10 (w.heap.size + 1) 22 (.slice A3 (Plain.badL (Plain.lines s)).length k3) from hW10 ▸ h11)
    rw [hW10]
    clear hW10
    clear hS10 hB10 hK10 h10 h11 c2 c3 f2 f3
    gi_wp2
    refine ⟨by simp, .inl ⟨_, _, rfl, run_takeDeferred HK10.out, ?_⟩⟩
    have hg := grownBy_putObj' W10 D (.deferred none)
    have hd : ∀ r, some D = some r → ∃ o : Obj, W10.heap[r]? = some o ∧ o.isCells = false := fun r e => by cases e; exact ⟨_, HK10.out, rfl⟩
    have hc2 := cell_kept H10.out.cell hg hd
    have hc3 := cell_kept H11.out.cell hg hd
    have hS11 := HS10.out.noncells hg hd
    have hB11 : Below w.heap.size w (W10.putObj D (.deferred none)) := HB10.out.grown hg HB10.out.size (fun r e => by cases e; omega)
    refine ⟨.tuple #[.slice A2 es.length k2, .slice A3 (Plain.badL (Plain.lines s)).length k3, .int .i64 0], ?_, ⟨_, _, es, rfl, hS11, HE2.out, hB11⟩⟩
    simp [results, Tryz.results10, go_sem, hc2, hc3]
end Go.Proofs.YteeekdffbcbamaaGreatDoor
