/-
  WHAT Split HANDS OVER, read.
-/
import Derived.Test.YteeekdffbcbamaaGreatDoorSplitW
import Derived.Test.YteeekdffbcbamaaGreatDoorSameL
import Derived.Test.YteeekdffbcbamaaGreatDoorG7
import Derived.Test.YteeekdffbcbamaaGreatDoorG12
import Derived.Test.YteeekdffbcbamaaGreatDoorG9
namespace Go.Proofs.YteeekdffbcbamaaGreatDoor
open Go.RowKit

theorem rowCells_get : ∀ (es : List (Plain.Sn × Value)) (j : Nat) (h : j < es.length) (k : Nat), k < 14 → (rowCells es)[j * 14 + k]? = (snCells es[j].1 es[j].2)[k]?
  | [], j, h, _, _ => absurd h (by simp)
  | e :: r, 0, _, k, hk => by
    show ((snCells e.1 e.2).toList ++ rowCells r)[0 * 14 + k]? = _
    rw [List.getElem?_append_left (by show 0 * 14 + k < 14; omega), Nat.zero_mul, Nat.zero_add]
    simp
  | e :: r, j + 1, h, k, hk => by
    have ih := rowCells_get r j (by simpa using h) k hk
    show ((snCells e.1 e.2).toList ++ rowCells r)[(j + 1) * 14 + k]? = _
    have hl : (snCells e.1 e.2).toList.length = 14 := rfl
    rw [List.getElem?_append_right (by rw [hl]; omega), hl, show (j + 1) * 14 + k - 14 = j * 14 + k by omega, ih]
    rfl
theorem SnR.reads {B : Nat} {W : World} {v2 v3 : Value} {es : List (Plain.Sn × Value)} {bad : List Int} (h : SnR B W v2 v3 es bad) : ∃ A c, v2 = .slice A es.length c ∧ SnAt W A es := by
  rcases h.1.2 with ⟨rfl, h0⟩ | ⟨g, cap, cur, rfl, hg, hh, hr⟩
  · exact ⟨none, 0, by rw [h0], fun j hj => absurd hj (by omega)⟩
  · refine ⟨_, _, rfl, fun j hj => ⟨g, 0, rfl, ?_, fun k u hu => ?_⟩⟩
    · have h3 := (h.2.2 _ (List.getElem_mem hj)).1
      obtain ⟨Aj, cj, e⟩ := own_formQ h3
      refine ⟨Aj, cj, e, ?_⟩
      rw [e] at h3
      exact own_PrL (own_less h3 (Nat.zero_le _))
    · have hk : k < 14 := by
        have := (Array.getElem?_eq_some_iff.1 hu).1
        exact this
      have h1 : (rowCells es)[j * 14 + k]? = some u := (rowCells_get es j hj k hk).trans hu
      have h2 := h.1.cells (g := g) rfl (j * 14 + k) u h1
      have e : (⟨g, 0, none⟩ : Addr).add (j * 14 + k) = ⟨g, 0 + j * 14 + k, none⟩ := by
        have e2 : (⟨g, 0, none⟩ : Addr).add (j * 14 + k) = ⟨g, j * 14 + k, none⟩ := by
          generalize j * 14 + k = q
          simp [Addr.add]
          exact Eq.symm
        rw [e2, Nat.zero_add]
      rw [← e]
      exact h2
end Go.Proofs.YteeekdffbcbamaaGreatDoor
/-
  WALKS: the sentences of a text, and the numbers of the lines that are none (the reference's Split).
-/
namespace Go.Proofs.YteeekdffbcbamaaGreatDoor
open Go.RowKit Go.Shelf

section
variable {B : Nat} {W w5 w8 w9 : World} {v2 v3 v5 v' : Value} {es : List (Plain.Sn × Value)} {sn : Plain.Sn} {bad : List Int} {i : Int}
/-- One sentence more. -/
theorem snR_good (hS : SnR B W v2 v3 es bad) (hsz : B ≤ W.heap.size) (hb5 : Below W.heap.size W w5) (ho5 : w5.ownsRow W.heap.size 3 1 v5 sn.prns.length (sn.prns.map (Value.int .i64))) (hb8 : Below w5.heap.size w5 w8) (hg : w8.grownBy w9 v2.ownBlock)
    (hown : w9.ownsRow B 28 14 v' (es.length + 1) (rowCells es ++ (snCells sn v5).toList)) : SnR B w9 v' v3 (es ++ [(sn, v5)]) bad := by
  have hb8' : Below W.heap.size W w8 := hb5.trans (hb8.mono hb5.size)
  have hS8 : SnR B w8 v2 v3 es bad := hS.below hb8'
  have ho8 := own_less (base' := B) (own_below ho5 hb8) hsz
  have hv3 : ∀ r, v2.ownBlock = some r → v3.ownBlock ≠ some r := fun r hr => own_types (by decide) hS8.1 hS8.2.1 hr
  have hv5 : ∀ r, v2.ownBlock = some r → v5.ownBlock ≠ some r := fun r hr => own_types (by decide) hS8.1 ho8 hr
  refine ⟨?_, own_keeps hS8.2.1 hg hv3, ?_⟩
  · rw [rowCells_snoc, List.length_append]
    exact hown
  · intro e he
    rcases List.mem_append.1 he with he | he
    · exact ⟨own_keeps (hS8.2.2 e he).1 hg (fun r hr => own_types (by decide) hS8.1 (hS8.2.2 e he).1 hr), (hS8.2.2 e he).2⟩
    · obtain rfl : e = (sn, v5) := by simpa using he
      refine ⟨own_keeps ho8 hg hv5, ?_⟩
      by_cases hn : v5.ownBlock = none
      · exact Or.inl hn
      · obtain ⟨g5, hg5⟩ := Option.ne_none_iff_exists'.1 hn
        refine Or.inr (fun e => ?_)
        have h5 := own_ge ho5 hg5
        have h3' := own_block_lt hS.2.1 (e.symm.trans hg5)
        omega
/-- One number more. -/
theorem snR_bad (hS : SnR B W v2 v3 es bad) (hb8' : Below W.heap.size W w8) (hg : w8.grownBy w9 v3.ownBlock)
    (hown : w9.ownsRow B 3 1 v' (bad.length + 1) (bad.map (Value.int .i64) ++ [.int .i64 i])) (hat : v'.ownBlock = v3.ownBlock ∨ v'.ownBlock = some w8.heap.size) : SnR B w9 v2 v' es (bad ++ [i]) := by
  have hS8 : SnR B w8 v2 v3 es bad := hS.below hb8'
  refine ⟨own_keeps hS8.1 hg (fun r hr => own_types (by decide) hS8.2.1 hS8.1 hr), ?_, ?_⟩
  · rw [List.length_append, List.map_append]
    exact hown
  · intro e he
    have h8 := hS8.2.2 e he
    have hn : ∀ r, v3.ownBlock = some r → e.2.ownBlock ≠ some r := by
      intro r hr h
      rcases h8.2 with h' | h'
      · rw [h'] at h; cases h
      · exact h' (h.trans hr.symm)
    refine ⟨own_keeps h8.1 hg hn, ?_⟩
    by_cases hz : e.2.ownBlock = none
    · exact Or.inl hz
    · refine Or.inr (fun h => ?_)
      obtain ⟨ge, hge⟩ := Option.ne_none_iff_exists'.1 hz
      rcases hat with h' | h'
      · exact hn ge ((h'.symm.trans h.symm).trans hge) hge
      · have h4 := own_block_lt h8.1 hge
        have h5 : some ge = some w8.heap.size := hge.symm.trans (h.trans h')
        injection h5 with h5
        omega
end
/-- What the reference's Split comes to. -/
def RSplitPost (w : World) (xs : List (Nat × ByteArray)) (en : Ending) (w' : World) : Prop :=
  ∃ v2 v3 es, en = .returned (.tuple #[v2, v3, .int .i64 0]) ∧ SnR w.heap.size w' v2 v3 es (Plain.badL xs) ∧ es.map (·.1) = Plain.goodL xs ∧ Below w.heap.size w w'
/-- In the loop. -/
def RSpI (w : World) (s : ByteArray) (v2 v3 : Value) (k line fr : Nat) (wr : World) : Prop :=
  ∃ pre es, Plain.SegI s pre k line fr ∧ SnR w.heap.size wr v2 v3 es (Plain.badL pre) ∧ es.map (·.1) = Plain.goodL pre ∧ Below w.heap.size w wr ∧ pre.length ≤ k
section
variable {w wr w5 w8 w9 : World} {s p : ByteArray} {pre : List (Nat × ByteArray)} {es : List (Plain.Sn × Value)} {k line : Nat} {sn : Plain.Sn} {v2 v3 v5 v' : Value}
theorem rsp_good (hseg : Plain.SegI s (pre ++ [(line, p)]) (k + 1) (line + 1) (k + 1)) (hS : SnR w.heap.size wr v2 v3 es (Plain.badL pre)) (hE : es.map (·.1) = Plain.goodL pre) (hB : Below w.heap.size w wr) (hb5 : Below wr.heap.size wr w5)
    (ho5 : w5.ownsRow wr.heap.size 3 1 v5 sn.prns.length (sn.prns.map (Value.int .i64))) (hb8 : Below w5.heap.size w5 w8) (hg : w8.grownBy w9 v2.ownBlock) (hown : w9.ownsRow w.heap.size 28 14 v' (es.length + 1) (rowCells es ++ (snCells sn v5).toList))
    (hgood : Plain.goodL (pre ++ [(line, p)]) = Plain.goodL pre ++ [sn] ∧ Plain.badL (pre ++ [(line, p)]) = Plain.badL pre) (hpl : pre.length ≤ k) : RSpI w s v' v3 (k + 1) (line + 1) (k + 1) w9 := by
  have hb8' : Below wr.heap.size wr w8 := hb5.trans (hb8.mono hb5.size)
  refine ⟨pre ++ [(line, p)], es ++ [(sn, v5)], hseg, ?_, ?_, ?_, by rw [List.length_append]; simp; omega⟩
  · rw [hgood.2]
    exact snR_good hS hB.size hb5 ho5 hb8 hg hown
  · rw [hgood.1, List.map_append, hE]; rfl
  · exact (hB.trans (hb8'.mono hB.size)).grown hg (Nat.le_trans hB.size hb8'.size) (fun r e => own_ge (hS.below hb8').1 e)
theorem rsp_bad (hseg : Plain.SegI s (pre ++ [(line, p)]) (k + 1) (line + 1) (k + 1)) (hS : SnR w.heap.size wr v2 v3 es (Plain.badL pre)) (hE : es.map (·.1) = Plain.goodL pre) (hB : Below w.heap.size w wr) (hb8' : Below wr.heap.size wr w8)
    (hg : w8.grownBy w9 v3.ownBlock) (hown : w9.ownsRow w.heap.size 3 1 v' ((Plain.badL pre).length + 1) ((Plain.badL pre).map (Value.int .i64) ++ [.int .i64 (line : Int)])) (hat : v'.ownBlock = v3.ownBlock ∨ v'.ownBlock = some w8.heap.size)
    (hbad : Plain.goodL (pre ++ [(line, p)]) = Plain.goodL pre ∧ Plain.badL (pre ++ [(line, p)]) = Plain.badL pre ++ [(line : Int)]) (hpl : pre.length ≤ k) : RSpI w s v2 v' (k + 1) (line + 1) (k + 1) w9 := by
  refine ⟨pre ++ [(line, p)], es, hseg, ?_, ?_, ?_, by rw [List.length_append]; simp; omega⟩
  · rw [hbad.2]
    exact snR_bad hS hb8' hg hown hat
  · rw [hbad.1]; exact hE
  · exact (hB.trans (hb8'.mono hB.size)).grown hg (Nat.le_trans hB.size hb8'.size) (fun r e => own_ge (hS.below hb8').2.1 e)
end
set_option maxRecDepth 100000 in
set_option maxHeartbeats 4000000 in
theorem rsplit_any (s : ByteArray) (w : World) (hs : s.size ≤ 100000) : Calls Tryz.prog 24 #[.string s] w (RSplitPost w (Plain.lines s)) := by
  have hs2 : ¬ (100000 : Int) < s.size := by omega
  have HS := Lib.hid hs
  have HP := Lib.hid (fun t W => rparse_any t W)
  have H0 : RSpI w s (.slice none 0 0) (.slice none 0 0) 0 0 0 w := ⟨[], [], Plain.seg_start s, ⟨World.ownsRow_nil _ _ _ _, World.ownsRow_nil _ _ _ _, fun e h => by simp at h⟩, rfl, Below.refl _ _, Nat.le_refl _⟩
  have HI0 := Lib.hid H0
  clear H0 hs
  go_enter Tryz.func24, Tryz.ntmps24
  go_wp2_with fail
  go_loopw [2, 3, 5, 6, 7] (fun v2 v3 ln fr i wr => ∃ k line from' : Nat, k ≤ s.size + 1 ∧ i = .int .i64 k ∧ ln = .int .i64 line ∧ fr = .int .i64 from' ∧ RSpI w s v2 v3 k line from' wr) (fun _ _ _ _ i _ => s.size + 1 - (intOf i).toNat)
  case atStart => exact ⟨0, 0, 0, by omega, rfl, rfl, rfl, HI0.out⟩
  case round =>
    obtain ⟨k, line, from', hk, rfl, rfl, rfl, hR⟩ := hrel
    obtain ⟨pre, es, hseg, hSn, hE, hB, hpl⟩ := hR
    clear HI0
    by_cases hlt : k < s.size
    · have hlt' : (k : Int) < s.size := by omega
      have hle' : (k : Int) ≤ s.size := by omega
      by_cases hc : s[k] = 10
      · have hb0 : ((s[k]'hlt).toNat : Int) = 10 := by rw [hc]; rfl
        have hne : ¬ (k : Int) = s.size := by omega
        have hcl : s.data.toList[k]? = some 10 := by
          rw [List.getElem?_eq_getElem (by rw [Plain.len_size]; exact hlt)]
          exact congrArg some hc
        clear hc
        have hseg2 := Plain.seg_line hseg (by omega) (Or.inl ⟨hlt, hcl⟩)
        have HSEG := Lib.hid hseg2
        have hfk : (from' : Int) ≤ k := by have := hseg.1; omega
        have hks : (k : Int) ≤ s.size := by omega
        have hlk : (line : Int) ≤ 100000 := by have := hseg.2.1; have := HS.out; omega
        have hkk : (k : Int) ≤ 100000 := by have := HS.out; omega
        have hPc := HP.out (s.extract from' k) wr
        have hgy := Plain.goodL_yes (pre := pre) (x := (line, s.extract from' k))
        have hgn := Plain.goodL_no (pre := pre) (x := (line, s.extract from' k))
        have hgl := Plain.good_len pre
        simp only at hgy hgn
        generalize Plain.parse (s.extract from' k) = r at *
        obtain ⟨sn, er, ea⟩ := r
        simp only at hgy hgn
        have HPC := Lib.hid hPc
        have HGY := Lib.hid hgy
        have HGN := Lib.hid hgn
        have HS2 := Lib.hid hSn
        have HE2 := Lib.hid hE
        have HB := Lib.hid hB
        have hes : es.length ≤ pre.length := by
          have := congrArg List.length hE
          rw [List.length_map] at this
          omega
        have HLN := Lib.hid (show es.length + 1 ≤ 200000 ∧ (Plain.badL pre).length + 1 ≤ 200000 ∧ pre.length ≤ k by have := HS.out; omega)
        clear hPc hgy hgn hSn hE hB hseg hseg2 hes hgl hpl
        go_wp2_with fail
        refine HPC.out.mono ?_
        rintro en w5 ⟨v5, rfl, ho5, hb5⟩
        obtain ⟨A5, c5, rfl⟩ := own_formQ ho5
        unfold snCells
        have HO5 := Lib.hid ho5
        have HB5 := Lib.hid hb5
        clear ho5 hb5 HPC
        have HS5 := Lib.hid (HS2.out.below HB5.out)
        have hw5 := Nat.le_trans HB.out.size HB5.out.size
        by_cases her : er = 0
        · subst her
          have hq : ((0 : Int) == 0) = true := rfl
          have HG := Lib.hid (HGY.out (by trivial))
          obtain ⟨i0, hi, hz0, hz1, hz2⟩ := info_parts infoSn
          go_wp2_with (at_builtin; refine wpList_append_own_at _ rfl _ _ 23 rfl w.heap.size 28 i0 (.agg #[.int .i64 0, .int .i64 0, .bool false, .int .i64 0, .int .i64 0, .int .i64 0, .int .i64 0, .int .i64 0, .int .i64 0, .slice none 0 0, .int .i64 0, .int .i64 0, .int .i64 0, .string ⟨#[]⟩]) 14 136 Tryz.underlying23 hi hz0 hz1 hz2 rfl (by decide) _ _ _ rfl (((HS5.out.1.alloc _).alloc _).alloc _) ⟨w5.heap.size + 1 + 1, 0, none⟩ 1 1 (#[.int .i64 sn.kind, .int .i64 sn.time, .bool sn.ok, .int .i64 sn.p0, .int .i64 sn.p1, .int .i64 sn.p2, .int .i64 sn.l0, .int .i64 sn.l1, .int .i64 sn.l2, .slice A5 sn.prns.length c5, .int .i64 sn.prn, .int .i64 sn.lag, .int .i64 sn.power, .string sn.text] : Array Value).toList rfl rfl ?_ ?_ ?_ ?_ ?_ ?_; rotate_left 5; intro v' w9 hown9 hg9 _ _; have HOW := Lib.hid hown9; clear hown9; have HG9 := Lib.hid hg9; clear hg9)
          rotate_left 1
          · simp [Value.oneCell']
          · have := HLN.out; simp only [maxLen]; omega
          · have := HLN.out; omega
          · simp; omega
          have HNX := Lib.hid (rsp_good HSEG.out HS2.out HE2.out HB.out HB5.out HO5.out ((((Below.refl _ w5).alloc (Nat.le_refl _) _).alloc (by simp) _).alloc (by simp; omega) _) HG9.out HOW.out HG.out HLN.out.2.2)
          go_roundw
          case rel => first | exact ⟨k + 1, line + 1, k + 1, by omega, by go_num, by go_num, by go_num, HNX.out⟩ | ((repeat apply Exists.intro); exact ⟨⟨k + 1, line + 1, k + 1, by omega, by go_num, by go_num, by go_num, HNX.out⟩, rfl⟩)
          case measure => simp [intOf]; omega
        · have hq : (er == 0) = false := by simpa using her
          have HG := Lib.hid (HGN.out her)
          obtain ⟨i0, hi, hz0, hz1, hz2⟩ := info_parts info3
          go_wp2_with (at_builtin; refine wpList_append_own_at _ rfl _ _ 22 rfl w.heap.size 3 i0 (.int .i64 0) 1 8 Tryz.underlying22 hi hz0 hz1 hz2 rfl (by decide) _ _ _ rfl (((HS5.out.2.1.alloc _).alloc _).alloc _) ⟨w5.heap.size + 1 + 1, 0, none⟩ 1 1 [.int .i64 (line : Int)] rfl rfl ?_ ?_ ?_ ?_ ?_ ?_; rotate_left 5; intro v' w9 hown9 hg9 _ hat9; have HOW := Lib.hid hown9; clear hown9; have HG9 := Lib.hid hg9; clear hg9; have HAT := Lib.hid hat9; clear hat9)
          rotate_left 1
          · exact cell_new_at _ _ _ _ (by simp)
          · simp [Value.oneCell']
          · have := HLN.out; simp only [maxLen]; omega
          · have := HLN.out; omega
          · simp; omega
          have HNX := Lib.hid (rsp_bad HSEG.out HS2.out HE2.out HB.out (HB5.out.trans (((((Below.refl _ w5).alloc (Nat.le_refl _) _).alloc (by simp) _).alloc (by simp; omega) _).mono HB5.out.size)) HG9.out HOW.out HAT.out HG.out HLN.out.2.2)
          go_roundw
          case rel => first | exact ⟨k + 1, line + 1, k + 1, by omega, by go_num, by go_num, by go_num, HNX.out⟩ | ((repeat apply Exists.intro); exact ⟨⟨k + 1, line + 1, k + 1, by omega, by go_num, by go_num, by go_num, HNX.out⟩, rfl⟩)
          case measure => simp [intOf]; omega
      · have hb1 : (((s[k]'hlt).toNat : Int) == 10) = false := by
          refine beq_eq_false_iff_ne.2 (fun h => hc ?_)
          refine UInt8.toNat_inj.1 ?_
          have h10 : (10 : UInt8).toNat = 10 := rfl
          omega
        have hb2 : ¬ ((s[k]'hlt).toNat : Int) = 10 := by simpa using hb1
        have hcl : s.data.toList[k]? ≠ some 10 := by
          rw [List.getElem?_eq_getElem (by rw [Plain.len_size]; exact hlt)]
          intro h
          injection h with h
          exact hc h
        have HN := Lib.hid (show RSpI w s _ _ (k + 1) line from' wr from ⟨pre, es, Plain.seg_byte hseg hlt hcl, hSn, hE, hB, by omega⟩)
        have hkk : (k : Int) ≤ 100000 := by have := HS.out; omega
        clear hc hseg hSn hE hB hcl
        go_wp2_with fail
        go_roundw
        case rel => exact ⟨k + 1, line, from', by omega, by go_num, rfl, rfl, HN.out⟩
        case measure => simp [intOf]; omega
    · by_cases hks0 : k = s.size
      · subst hks0
        have hks : ((s.size : Nat) : Int) ≤ s.size := Int.le_refl _
        have hlt' : ¬ ((s.size : Nat) : Int) < s.size := by omega
        by_cases hf : from' = s.size
        · have HN := Lib.hid (show RSpI w s _ _ (s.size + 1) line from' wr from ⟨pre, es, Plain.seg_skip hseg rfl hf, hSn, hE, hB, by omega⟩)
          have hf' : (from' : Int) = s.size := by omega
          have hkk : (s.size : Int) ≤ 100000 := by have := HS.out; omega
          clear hseg hSn hE hB
          go_wp2_with fail
          go_roundw
          case rel => exact ⟨s.size + 1, line, from', by omega, by go_num, rfl, rfl, HN.out⟩
          case measure => simp [intOf]
        · have hf' : ¬ (from' : Int) = s.size := by omega
          have hseg2 := Plain.seg_line hseg (by omega) (Or.inr ⟨rfl, hf⟩)
          have HSEG := Lib.hid hseg2
          have hfk : (from' : Int) ≤ s.size := by have := hseg.1; omega
          have hlk : (line : Int) ≤ 100000 := by have := hseg.2.1; have := HS.out; omega
          have hkk : ((s.size : Nat) : Int) ≤ 100000 := by have := HS.out; omega
          have hPc := HP.out (s.extract from' s.size) wr
          have hgy := Plain.goodL_yes (pre := pre) (x := (line, s.extract from' s.size))
          have hgn := Plain.goodL_no (pre := pre) (x := (line, s.extract from' s.size))
          have hgl := Plain.good_len pre
          simp only at hgy hgn
          generalize Plain.parse (s.extract from' s.size) = r at *
          obtain ⟨sn, er, ea⟩ := r
          simp only at hgy hgn
          have HPC := Lib.hid hPc
          have HGY := Lib.hid hgy
          have HGN := Lib.hid hgn
          have HS2 := Lib.hid hSn
          have HE2 := Lib.hid hE
          have HB := Lib.hid hB
          have hes : es.length ≤ pre.length := by
            have := congrArg List.length hE
            rw [List.length_map] at this
            omega
          have HLN := Lib.hid (show es.length + 1 ≤ 200000 ∧ (Plain.badL pre).length + 1 ≤ 200000 ∧ pre.length ≤ s.size by have := HS.out; omega)
          clear hPc hgy hgn hSn hE hB hseg hseg2 hes hgl hpl
          go_wp2_with fail
          refine HPC.out.mono ?_
          rintro en w5 ⟨v5, rfl, ho5, hb5⟩
          obtain ⟨A5, c5, rfl⟩ := own_formQ ho5
          unfold snCells
          have HO5 := Lib.hid ho5
          have HB5 := Lib.hid hb5
          clear ho5 hb5 HPC
          have HS5 := Lib.hid (HS2.out.below HB5.out)
          have hw5 := Nat.le_trans HB.out.size HB5.out.size
          by_cases her : er = 0
          · subst her
            have hq : ((0 : Int) == 0) = true := rfl
            have HG := Lib.hid (HGY.out (by trivial))
            obtain ⟨i0, hi, hz0, hz1, hz2⟩ := info_parts infoSn
            go_wp2_with (at_builtin; refine wpList_append_own_at _ rfl _ _ 23 rfl w.heap.size 28 i0 (.agg #[.int .i64 0, .int .i64 0, .bool false, .int .i64 0, .int .i64 0, .int .i64 0, .int .i64 0, .int .i64 0, .int .i64 0, .slice none 0 0, .int .i64 0, .int .i64 0, .int .i64 0, .string ⟨#[]⟩]) 14 136 Tryz.underlying23 hi hz0 hz1 hz2 rfl (by decide) _ _ _ rfl (((HS5.out.1.alloc _).alloc _).alloc _) ⟨w5.heap.size + 1 + 1, 0, none⟩ 1 1 (#[.int .i64 sn.kind, .int .i64 sn.time, .bool sn.ok, .int .i64 sn.p0, .int .i64 sn.p1, .int .i64 sn.p2, .int .i64 sn.l0, .int .i64 sn.l1, .int .i64 sn.l2, .slice A5 sn.prns.length c5, .int .i64 sn.prn, .int .i64 sn.lag, .int .i64 sn.power, .string sn.text] : Array Value).toList rfl rfl ?_ ?_ ?_ ?_ ?_ ?_; rotate_left 5; intro v' w9 hown9 hg9 _ _; have HOW := Lib.hid hown9; clear hown9; have HG9 := Lib.hid hg9; clear hg9)
            rotate_left 1
            · simp [Value.oneCell']
            · have := HLN.out; simp only [maxLen]; omega
            · have := HLN.out; omega
            · simp; omega
            have HNX := Lib.hid (rsp_good HSEG.out HS2.out HE2.out HB.out HB5.out HO5.out ((((Below.refl _ w5).alloc (Nat.le_refl _) _).alloc (by simp) _).alloc (by simp; omega) _) HG9.out HOW.out HG.out HLN.out.2.2)
            go_roundw
            case rel => first | exact ⟨s.size + 1, line + 1, s.size + 1, by omega, by go_num, by go_num, by go_num, HNX.out⟩ | ((repeat apply Exists.intro); exact ⟨⟨s.size + 1, line + 1, s.size + 1, by omega, by go_num, by go_num, by go_num, HNX.out⟩, rfl⟩)
            case measure => simp [intOf]
          · have hq : (er == 0) = false := by simpa using her
            have HG := Lib.hid (HGN.out her)
            obtain ⟨i0, hi, hz0, hz1, hz2⟩ := info_parts info3
            go_wp2_with (at_builtin; refine wpList_append_own_at _ rfl _ _ 22 rfl w.heap.size 3 i0 (.int .i64 0) 1 8 Tryz.underlying22 hi hz0 hz1 hz2 rfl (by decide) _ _ _ rfl (((HS5.out.2.1.alloc _).alloc _).alloc _) ⟨w5.heap.size + 1 + 1, 0, none⟩ 1 1 [.int .i64 (line : Int)] rfl rfl ?_ ?_ ?_ ?_ ?_ ?_; rotate_left 5; intro v' w9 hown9 hg9 _ hat9; have HOW := Lib.hid hown9; clear hown9; have HG9 := Lib.hid hg9; clear hg9; have HAT := Lib.hid hat9; clear hat9)
            rotate_left 1
            · exact cell_new_at _ _ _ _ (by simp)
            · simp [Value.oneCell']
            · have := HLN.out; simp only [maxLen]; omega
            · have := HLN.out; omega
            · simp; omega
            have HNX := Lib.hid (rsp_bad HSEG.out HS2.out HE2.out HB.out (HB5.out.trans (((((Below.refl _ w5).alloc (Nat.le_refl _) _).alloc (by simp) _).alloc (by simp; omega) _).mono HB5.out.size)) HG9.out HOW.out HAT.out HG.out HLN.out.2.2)
            go_roundw
            case rel => first | exact ⟨s.size + 1, line + 1, s.size + 1, by omega, by go_num, by go_num, by go_num, HNX.out⟩ | ((repeat apply Exists.intro); exact ⟨⟨s.size + 1, line + 1, s.size + 1, by omega, by go_num, by go_num, by go_num, HNX.out⟩, rfl⟩)
            case measure => simp [intOf]
      · have hle' : ¬ (k : Int) ≤ s.size := by omega
        obtain rfl := Plain.seg_done hseg (by omega)
        have HN := Lib.hid (And.intro hSn (And.intro hE hB))
        clear hseg hSn hE hB
        go_wp2_with fail
        go_ret3
        exact ⟨_, _, es, rfl, HN.out.1, HN.out.2.1, HN.out.2.2⟩
end Go.Proofs.YteeekdffbcbamaaGreatDoor
