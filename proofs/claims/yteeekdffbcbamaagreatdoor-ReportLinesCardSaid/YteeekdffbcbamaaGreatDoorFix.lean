/-
  WALKS: what reads a fix (package report).
-/
import Derived.Test.YteeekdffbcbamaaGreatDoorG3
import Derived.Deep.RegionWith
import Derived.RangeFuncBox
import Derived.Maps.AppendAt
import Derived.OneCell
import Derived.Deep.Cut
namespace Go.Proofs.YteeekdffbcbamaaGreatDoor
open Go.RowKit

/-- What the numbers of a fix leave in the sentence's cells. -/
def fixV (j : Nat) (z : Int) : Value := if j = 0 then .bool (z == 1) else .int .i64 z
def fixX (s : ByteArray) (e : Nat) (st : Plain.St) (X : Array Value) : Nat → Array Value
  | 0 => X
  | j + 1 => (fixX s e st X j).setIfInBounds (2 + j) (fixV j (Plain.numO s e (Plain.fixSt s e st j)))
/-- The reader behind j numbers of a fix. -/
def FixR (wr : World) (b T : Nat) (s : ByteArray) (e : Nat) (st : Plain.St) (X : Array Value) (j : Nat) : Prop :=
  ∃ X', X'.size = 14 ∧ Rs wr b T s e (Plain.fixSt s e st j) X' ∧ (X'[9]? = X[9]? ∧ X'[0]? = X[0]?) ∧ ((Plain.fixSt s e st j).er = 0 → X' = fixX s e st X j)
theorem FixR.step {w1 : World} {b T : Nat} {s : ByteArray} {e : Nat} {st : Plain.St} {X X' : Array Value} {j : Nat} {z : Int} (hj : j < 7)
    (hX : X'.size = 14) (h9 : X'[9]? = X[9]? ∧ X'[0]? = X[0]?) (h : (Plain.fixSt s e st j).er = 0 → X' = fixX s e st X j)
    (hz : (Plain.fixSt s e st (j + 1)).er = 0 → z = Plain.numO s e (Plain.fixSt s e st j))
    (hr : Rs w1 b T s e (Plain.fixSt s e st (j + 1)) X') : FixR (w1.setCell ⟨b, 6 + (2 + j), none⟩ (fixV j z)) b T s e st X (j + 1) := by
  refine ⟨X'.setIfInBounds (2 + j) (fixV j z), by rw [Array.size_setIfInBounds, hX], Rd.setX hr (2 + j) _, ?_, fun h0 => ?_⟩
  · rw [Array.getElem?_setIfInBounds_ne (by omega), Array.getElem?_setIfInBounds_ne (by omega)]
    exact h9
  · have h1 : (Plain.fixSt s e st j).er = 0 := Plain.num_er h0
    rw [h h1, hz h0]
    rfl
theorem grown_undrew {w w' : World} {row : Option Nat} (h : w.drew.grownBy w' row) : w.grownBy w' row := ⟨h.os, h.tape, h.output, h.size, h.block⟩
theorem fixCell {w : World} {b T : Nat} {s : ByteArray} {e : Nat} {st : Plain.St} {X : Array Value} (hX : X.size = 14) (h : Rs w b T s e st X) {k : Nat} (hk : k < 3) : ∃ v, w.cell? ⟨b, 9 + k, none⟩ = some v := by
  obtain ⟨v, hv⟩ := size_get hX (3 + k) (by omega)
  refine ⟨v, ?_⟩
  have := Rd.x h (3 + k) v hv
  rw [show 6 + (3 + k) = 9 + k by omega] at this
  exact this
theorem fixCell12 {w : World} {b T : Nat} {s : ByteArray} {e : Nat} {st : Plain.St} {X : Array Value} (hX : X.size = 14) (h : Rs w b T s e st X) {k : Nat} (hk : k < 3) : ∃ v, w.cell? ⟨b, 12 + k, none⟩ = some v := by
  obtain ⟨v, hv⟩ := size_get hX (6 + k) (by omega)
  refine ⟨v, ?_⟩
  have := Rd.x h (6 + k) v hv
  rw [show 6 + (6 + k) = 12 + k by omega] at this
  exact this
theorem set_same {X : Array Value} {i : Nat} {v : Value} (h : X[i]? = some v) : X.setIfInBounds i v = X := by
  apply Array.ext_getElem?
  intro j
  by_cases hj : i = j
  · subst hj
    rw [Array.getElem?_setIfInBounds_self, h]
    have := (Array.getElem?_eq_some_iff.1 h).1
    rw [if_pos this]
  · rw [Array.getElem?_setIfInBounds_ne hj]
/-- The next number of a fix. -/
theorem fix_num {b T : Nat} {s : ByteArray} {e : Nat} {st : Plain.St} (ok : Plain.okSt e st) (hs : s.size ≤ 1000000) (hes : e ≤ s.size) (te : TypeId) (pe : Value) (hbE : 2 < b)
    (j : Nat) (W : World) (Y : Array Value) (lo hi wr : Int) (hB : Plain.fixB j = (lo, hi, wr)) (h : Rs W b T s e (Plain.fixSt s e st j) Y) (hV : W.cell? ⟨2, 0, none⟩ = some (.iface te pe)) :
    Calls Tryz.prog 33 #[.pointer (some ⟨b, 0, none⟩), .int .i64 lo, .int .i64 hi, .int .i64 wr] W fun en w' => ∃ z, en = .returned (.int .i64 z) ∧ ((Plain.fixSt s e st (j + 1)).er = 0 → z = Plain.numO s e (Plain.fixSt s e st j)) ∧ Rs w' b T s e (Plain.fixSt s e st (j + 1)) Y ∧ W.grownBy w' (some b) := by
  obtain ⟨h1, h2, h3, h4⟩ := Plain.fixB_ok j
  have := number_st b T s e (Plain.fixSt s e st j) Y W lo hi wr h (Plain.okSt_fix ok j) hs hes (by rw [hB] at h1; exact h1) (by rw [hB] at h2; exact h2) (by rw [hB] at h3; exact h3) (by rw [hB] at h4; exact h4) te pe hV hbE
  have e1 : Plain.fixSt s e st (j + 1) = Plain.numSt s e (Plain.fixSt s e st j) lo hi wr := by
    show Plain.numSt s e (Plain.fixSt s e st j) (Plain.fixB j).1 (Plain.fixB j).2.1 (Plain.fixB j).2.2 = _
    rw [hB]
  rw [e1]
  exact this

theorem info3 : (Tryz.prog.info? 3).map (fun i => (i.zero, i.size, i.bytes)) = some (some (.int .i64 0), 1, 8) := by kernel_rfl
theorem own_ge {w : World} {base : Nat} {e : TypeId} {size n : Nat} {v : Value} {xs : List Value} (h : w.ownsRow base e size v n xs) {g : Nat} (hg : v.ownBlock = some g) : base ≤ g := by
  rcases h.2 with ⟨rfl, _⟩ | ⟨g', cap, cur, rfl, hge, _⟩
  · exact absurd hg (by simp [Value.ownBlock])
  · have : g' = g := by simpa [Value.ownBlock] using hg
    omega
theorem own_ne {w : World} {base : Nat} {e : TypeId} {size n : Nat} {v : Value} {xs : List Value} (h : w.ownsRow base e size v n xs) {b : Nat} (hb : b < base) : v.ownBlock ≠ some b := by
  intro hg
  have := own_ge h hg
  omega
theorem own_grown {w w' : World} {base : Nat} {e : TypeId} {size n : Nat} {v : Value} {xs : List Value} (h : w.ownsRow base e size v n xs) {b : Nat} (hb : b < base) (hg : w.grownBy w' (some b)) : w'.ownsRow base e size v n xs :=
  h.kept hg (Or.inr (own_ne h hb))
theorem cell_new_at (w : World) (v : Value) (t : TypeId) (i : Nat) (hi : i = w.heap.size) : ∀ (j : Nat) (u : Value), [v][j]? = some u → (w.alloc (.cells #[v] t)).cell? ((⟨i, 0, none⟩ : Addr).add j) = some u := by
  subst hi; exact cell_one_new w v t
/-- A reader in the loop over the numbers of satellites. -/
def PrnR (w wr : World) (b T : Nat) (s : ByteArray) (e : Nat) (fin : Plain.St) (L : List Int) (X2 : Array Value) (last many : Int) : Prop :=
  ∃ (st : Plain.St) (v : Value) (zs : List Int), Plain.okSt e st ∧ Rs wr b T s e st (X2.setIfInBounds 9 v) ∧ wr.ownsRow (b + 1) 3 1 v zs.length (zs.map (Value.int .i64)) ∧
    Plain.prnSt s e many.toNat last st = fin ∧ (fin.er = 0 → zs ++ Plain.prnL s e many.toNat last st = L) ∧ (st.er = 0 → 0 ≤ many ∧ zs.length + many.toNat ≤ 16) ∧ Below b w wr
theorem PrnR.next {w w9 : World} {b T : Nat} {s : ByteArray} {e : Nat} {fin st : Plain.St} {L zs : List Int} {X2 : Array Value} {last many z : Int} {v v' : Value} (her : st.er = 0) (hm : 0 < many)
    (hz : (Plain.numSt s e st 1 63 2).er = 0 → z = Plain.numO s e st) (ok : Plain.okSt e st) (hE : Plain.prnSt s e many.toNat last st = fin) (hL : fin.er = 0 → zs ++ Plain.prnL s e many.toNat last st = L)
    (hb : st.er = 0 → 0 ≤ many ∧ zs.length + many.toNat ≤ 16) (hR : Rs w9 b T s e (Plain.prnSt1 s e last st) (X2.setIfInBounds 9 v)) (ho : w9.ownsRow (b + 1) 3 1 v' (zs.length + 1) (zs.map (Value.int .i64) ++ [.int .i64 z])) (hB : Below b w w9) :
    PrnR w (w9.setCell ⟨b, 15, none⟩ v') b T s e fin L X2 z (many - 1) := by
  have hk : many.toNat = (many - 1).toNat + 1 := by omega
  rw [hk] at hE hL
  obtain ⟨p1, p2⟩ := Plain.prn_step her hz hE hL
  obtain ⟨b1, b2⟩ := hb her
  refine ⟨Plain.prnSt1 s e last st, v', zs ++ [z], Plain.okSt_prn1 ok, ?_, ?_, p1, p2, fun _ => ⟨by omega, by rw [List.length_append]; simp; omega⟩, hB.setCell (by exact Nat.le_refl _) _⟩
  · have := Rd.setX hR 9 v'
    rw [Array.setIfInBounds_setIfInBounds] at this
    exact this
  · rw [List.length_append, List.map_append]
    exact ownsRow_setCell_below ho (by show b < b + 1; omega) _
theorem prnCell {w : World} {b T : Nat} {s : ByteArray} {e : Nat} {st : Plain.St} {X : Array Value} {v : Value} (hX : X.size = 14) (h : Rs w b T s e st (X.setIfInBounds 9 v)) : w.cell? ⟨b, 15, none⟩ = some v :=
  Rd.x h 9 v (by rw [Array.getElem?_setIfInBounds_self, if_pos (by omega)])
theorem prnGrown {w w9 : World} {b T : Nat} {s : ByteArray} {e n : Nat} {st : Plain.St} {X : Array Value} {v : Value} {xs : List Value} {o : Obj} (h : Rs w b T s e st X) (ho : w.ownsRow (b + 1) 3 1 v n xs) (hg : (w.alloc o).grownBy w9 v.ownBlock) : Rs w9 b T s e st X :=
  Rd.grown (Rd.alloc h o) hg (Ne.symm (own_ne ho (by omega)))
theorem prnBelow {w w8 w9 : World} {b n : Nat} {v : Value} {xs : List Value} {o : Obj} (h : Below b w w8) (hg : (w8.alloc o).grownBy w9 v.ownBlock) (ho : w8.ownsRow (b + 1) 3 1 v n xs) (hlt : b < w8.heap.size) : Below b w w9 :=
  (h.alloc (by omega) o).grown hg (by simp; omega) (fun g e => by have := own_ge ho e; omega)
/-- What a fix comes to. -/
def FixPost (w : World) (b T : Nat) (s : ByteArray) (e : Nat) (st : Plain.St) (X : Array Value) (en : Ending) (w' : World) : Prop :=
  en = .returned (.tuple #[]) ∧ ∃ (X2 : Array Value) (v : Value) (zs : List Int), X2.size = 14 ∧ X2[0]? = X[0]? ∧ Rs w' b T s e (Plain.fixEnd s e st) (X2.setIfInBounds 9 v) ∧ w'.ownsRow (b + 1) 3 1 v zs.length (zs.map (Value.int .i64)) ∧
    ((Plain.fixEnd s e st).er = 0 → X2 = fixX s e st X 7 ∧ zs = Plain.fixL s e st) ∧ Below b w w'

theorem prnEnd {w wr : World} {b T : Nat} {s : ByteArray} {e : Nat} {st st' : Plain.St} {X X1 : Array Value} {v : Value} {zs : List Int} (hX1 : X1.size = 14) (hX0 : X1[0]? = X[0]?) (hD : st' = Plain.fixEnd s e st ∧ ((Plain.fixEnd s e st).er = 0 → zs = Plain.fixL s e st))
    (hR : Rs wr b T s e st' (X1.setIfInBounds 9 v)) (hO : wr.ownsRow (b + 1) 3 1 v zs.length (zs.map (Value.int .i64))) (hX2 : (Plain.fixEnd s e st).er = 0 → X1 = fixX s e st X 7) (hB : Below b w wr) : FixPost w b T s e st X (.returned (.tuple #[])) wr := by
  obtain ⟨rfl, h2⟩ := hD
  exact ⟨rfl, X1, v, zs, hX1, hX0, hR, hO, fun h => ⟨hX2 h, h2 h⟩, hB⟩

set_option maxHeartbeats 1000000 in
theorem fix_st (b T : Nat) (s : ByteArray) (e : Nat) (st : Plain.St) (X : Array Value) (w : World) (h : Rs w b T s e st X) (ok : Plain.okSt e st) (hs : s.size ≤ 1000000) (hes : e ≤ s.size) (hX : X.size = 14) (hX9 : X[9]? = some (.slice none 0 0))
    (te : TypeId) (pe : Value) (hV : w.cell? ⟨2, 0, none⟩ = some (.iface te pe)) (hbE : 2 < b) :
    Calls Tryz.prog 53 #[.pointer (some ⟨b, 0, none⟩)] w (FixPost w b T s e st X) := by
  have HI := Lib.hid (info_parts info3)
  have HN := Lib.hid (fun j W Y lo hi wr hB h hV => fix_num (b := b) (T := T) (s := s) (e := e) (st := st) ok hs hes te pe hbE j W Y lo hi wr hB h hV)
  have H0 : FixR w b T s e st X 0 := ⟨X, hX, h, ⟨rfl, rfl⟩, fun _ => rfl⟩
  have HF0 := Lib.hid H0; clear H0
  have HOK := Lib.hid ok
  have HNM := Lib.hid (fun W st Y ok h hV => number_st b T s e st Y W 1 63 2 h ok hs hes (by omega) (by omega) (by omega) (by omega) te pe hV hbE)
  have HX9 := Lib.hid hX9
  have HBL := Lib.hid (Rd.lt h)
  clear h ok hX9
  have HV := Lib.hid hV; clear hV
  go_enter Tryz.func53, Tryz.ntmps53
  go_wp2_with fail
  obtain ⟨X0, hX0, hr0, h90, hq0⟩ := HF0.out
  refine (HN.out 0 _ _ _ _ _ rfl hr0 HV.out).mono ?_
  rintro en w1 ⟨z1, rfl, hz1, hr1, hg1⟩
  have HR1 := Lib.hid hr1; clear hr1
  have HG1 := Lib.hid hg1; clear hg1
  have HZ1 := Lib.hid hz1; clear hz1
  have HQ0 := Lib.hid (And.intro h90 hq0); clear h90 hq0 hr0
  obtain ⟨v1, hv1⟩ := size_get hX0 2 (by omega)
  have c1 : w1.cell? ⟨b, 8, none⟩ = some v1 := Rd.x HR1.out 2 v1 hv1
  clear hv1
  have hfr := Rd.frozen HR1.out
  go_wp2_with fail
  have HS := Lib.hid (FixR.step (j := 0) (by omega) hX0 HQ0.out.1 HQ0.out.2 HZ1.out HR1.out)
  have HGA := Lib.hid (grown_trans HG1.out (grown_set w1 b (6 + (2 + 0)) (fixV 0 z1)))
  clear c1 hfr hX0
  change Hid (FixR (w1.setCell ⟨b, 8, none⟩ (.bool (z1 == 1))) b T s e st X 1) at HS
  change Hid (w.grownBy (w1.setCell ⟨b, 8, none⟩ (.bool (z1 == 1))) (some b)) at HGA
  generalize w1.setCell ⟨b, 8, none⟩ (.bool (z1 == 1)) = w2 at *
  clear HR1 HG1 HZ1 HQ0
  go_loopw [15] (fun i wr => ∃ k : Nat, k ≤ 3 ∧ i = .int .i64 k ∧ FixR wr b T s e st X (k + 1) ∧ w.grownBy wr (some b)) (fun i _ => 3 - (intOf i).toNat)
  case atStart => exact ⟨0, by omega, rfl, HS.out, HGA.out⟩
  case round =>
    obtain ⟨k, hk, rfl, hr, hg⟩ := hrel
    have HG := Lib.hid hg; clear hg
    obtain ⟨X1, hX1, hr1, h91, hq1⟩ := hr
    have HQ1 := Lib.hid (And.intro h91 hq1); clear h91 hq1
    have HR := Lib.hid hr1; clear hr1
    clear HS HGA
    by_cases hlt : k < 3
    · have HV1 := Lib.hid (HG.out.cell HV.out (by simp; omega))
      have hB : Plain.fixB (k + 1) = (-10000000000000, 10000000000000, 2) := by unfold Plain.fixB; rw [if_neg (by omega), if_pos (by omega)]
      have HB := Lib.hid hB; clear hB
      go_wp2_with fail
      go_region_with (go_at_call 33; refine (HN.out _ wr.drew _ _ _ _ HB.out HR.out HV1.out).mono ?_; rintro en w3 ⟨z, rfl, hz, hr3, hg3⟩; have HR3 := Lib.hid hr3; clear hr3; have HG3 := Lib.hid hg3; clear hg3; have HZ3 := Lib.hid hz; clear hz; have hfr := Rd.frozen HR3.out; obtain ⟨v3, c3⟩ := fixCell hX1 HR3.out hlt)
      all_goals
        have HS3 := Lib.hid (FixR.step (j := k + 1) (by omega) hX1 HQ1.out.1 HQ1.out.2 HZ3.out HR3.out)
        have HG4 := Lib.hid (grown_trans (grown_trans HG.out (grown_undrew HG3.out)) (grown_set w3 b (6 + (2 + (k + 1))) (fixV (k + 1) z)))
        have e1 : fixV (k + 1) z = .int .i64 z := by unfold fixV; rw [if_neg (by omega)]
        rw [e1, show 6 + (2 + (k + 1)) = 9 + k by omega] at HS3 HG4
        clear e1
        go_wp2_with fail
        go_roundw
        case rel => exact ⟨k + 1, by omega, by go_num, HS3.out, HG4.out⟩
        case measure => simp [intOf]; omega
    · obtain rfl : k = 3 := by omega
      clear hlt hk
      go_wp2_with fail
      obtain ⟨w5, hw5⟩ : ∃ w5, wr = w5 := ⟨_, rfl⟩
      rw [hw5] at HG HR ⊢
      have HS5 : Hid (FixR w5 b T s e st X (3 + 1)) := Lib.hid ⟨X1, hX1, HR.out, HQ1.out.1, HQ1.out.2⟩
      have HGA5 := Lib.hid HG.out
      clear hw5 hX1 HQ1 HR HG
      go_loopw [27] (fun i wr => ∃ k : Nat, k ≤ 3 ∧ i = .int .i64 k ∧ FixR wr b T s e st X (k + 4) ∧ w.grownBy wr (some b)) (fun i _ => 3 - (intOf i).toNat)
      case atStart => exact ⟨0, by omega, rfl, HS5.out, HGA5.out⟩
      case round =>
        obtain ⟨k, hk, rfl, hr, hg⟩ := hrel
        have HG := Lib.hid hg; clear hg
        obtain ⟨X1, hX1, hr1, h91, hq1⟩ := hr
        have HQ1 := Lib.hid (And.intro h91 hq1); clear h91 hq1
        have HR := Lib.hid hr1; clear hr1
        clear HS5 HGA5
        by_cases hlt : k < 3
        · have HV1 := Lib.hid (HG.out.cell HV.out (by simp; omega))
          have hB : Plain.fixB (k + 4) = (0, 10000000000000, 2) := by unfold Plain.fixB; rw [if_neg (by omega), if_neg (by omega), if_pos (by omega)]
          have HB := Lib.hid hB; clear hB
          go_wp2_with fail
          go_region_with (go_at_call 33; refine (HN.out _ wr.drew _ _ _ _ HB.out HR.out HV1.out).mono ?_; rintro en w3 ⟨z, rfl, hz, hr3, hg3⟩; have HR3 := Lib.hid hr3; clear hr3; have HG3 := Lib.hid hg3; clear hg3; have HZ3 := Lib.hid hz; clear hz; have hfr := Rd.frozen HR3.out; obtain ⟨v3, c3⟩ := fixCell12 hX1 HR3.out hlt)
          all_goals
            have HS3 := Lib.hid (FixR.step (j := k + 4) (by omega) hX1 HQ1.out.1 HQ1.out.2 HZ3.out HR3.out)
            have HG4 := Lib.hid (grown_trans (grown_trans HG.out (grown_undrew HG3.out)) (grown_set w3 b (6 + (2 + (k + 4))) (fixV (k + 4) z)))
            have e1 : fixV (k + 4) z = .int .i64 z := by unfold fixV; rw [if_neg (by omega)]
            rw [e1, show 6 + (2 + (k + 4)) = 12 + k by omega] at HS3 HG4
            clear e1
            go_wp2_with fail
            go_roundw
            case rel => first | exact ⟨k + 1, by omega, by go_num, HS3.out, HG4.out⟩ | ((repeat apply Exists.intro); exact ⟨⟨k + 1, by omega, by go_num, HS3.out, HG4.out⟩, rfl⟩)
            case measure => simp [intOf]; omega
        · obtain rfl : k = 3 := by omega
          clear hlt hk
          have HV1 := Lib.hid (HG.out.cell HV.out (by simp; omega))
          go_wp2_with fail
          refine (HN.out 7 wr _ _ _ _ rfl HR.out HV1.out).mono ?_
          rintro en w6 ⟨many, rfl, hmz, hr6, hg6⟩
          have hB6 : Below b w w6 := ((Below.refl b w).grown (grown_trans HG.out hg6) (by have := HBL.out; omega) (fun g e => by cases e; exact Nat.le_refl _))
          have H3 : PrnR w w6 b T s e (Plain.fixEnd s e st) (Plain.fixL s e st) X1 0 many := by
            refine ⟨Plain.fixSt s e st 8, .slice none 0 0, [], Plain.okSt_fix HOK.out 8, ?_, World.ownsRow_nil _ _ _ _, ?_, ?_, ?_, hB6⟩
            · rw [set_same (HQ1.out.1.1.trans HX9.out)]; exact hr6
            · unfold Plain.fixEnd Plain.fixMany
              by_cases h0 : (Plain.fixSt s e st 8).er = 0
              · rw [hmz h0]
              · rw [Plain.prnSt_er h0, Plain.prnSt_er h0]
            · intro hf
              rw [List.nil_append]
              unfold Plain.fixL Plain.fixMany
              by_cases h0 : (Plain.fixSt s e st 8).er = 0
              · rw [hmz h0]
              · unfold Plain.fixEnd at hf
                rw [Plain.prnSt_er h0] at hf
                exact absurd hf h0
            · intro h0
              have := Plain.num_range (by decide) (show (Plain.numSt s e (Plain.fixSt s e st 7) 0 16 4).er = 0 from h0)
              rw [hmz h0]
              obtain ⟨_, _, _, g1, g2⟩ := this
              exact ⟨g1, by simp; omega⟩
          have HP := Lib.hid H3; clear H3
          have HX0 := Lib.hid HQ1.out.1.2
          have HX2 := Lib.hid (fun (hf : (Plain.fixEnd s e st).er = 0) => HQ1.out.2 (Plain.num_er (Plain.fixEnd_er hf)))
          clear hr6 hg6 hB6 hmz HG HR HV1 HQ1
          go_wp2_with fail
          go_loopw [4, 5] (fun l m wr => ∃ last many : Int, l = .int .i64 last ∧ m = .int .i64 many ∧ PrnR w wr b T s e (Plain.fixEnd s e st) (Plain.fixL s e st) X1 last many) (fun _ m _ => (intOf m).toNat)
          case atStart => exact ⟨0, many, rfl, rfl, HP.out⟩
          case round =>
            obtain ⟨last, many, rfl, rfl, hP⟩ := hrel
            clear HP
            obtain ⟨st', v, zs, ok', hr', ho', hE, hL, hb', hB'⟩ := hP
            have HE := Lib.hid hE; clear hE
            have HL := Lib.hid hL; clear hL
            have HO := Lib.hid ho'; clear ho'
            have HB := Lib.hid hB'; clear hB'
            have HR := Lib.hid hr'; clear hr'
            have HK := Lib.hid ok'; clear ok'
            have HM := Lib.hid hb'; clear hb'
            obtain ⟨d0, d1, d2, d3, d4, d5⟩ := Rd.cells HR.out
            clear d0 d2 d3 d5
            by_cases her : st'.er = 0
            · rw [her] at d4
              have HER := Lib.hid her; clear her
              by_cases hm : 0 < many
              · have hV6 := HB.out.cell (p := ⟨2, 0, none⟩) (by simp; omega)
                have HV6 := Lib.hid (hV6.trans HV.out); clear hV6
                have hlen := Lib.hid (HM.out HER.out)
                go_wp2_with fail
                refine (HNM.out _ _ _ HK.out HR.out HV6.out).mono ?_
                rintro en w7 ⟨z, rfl, hz7, hr7, hg7⟩
                have HR7 := Lib.hid hr7; clear hr7
                have HG7 := Lib.hid hg7; clear hg7
                have HZ7 := Lib.hid hz7; clear hz7
                have HO7 := Lib.hid (own_grown HO.out (by omega) HG7.out)
                have HB7 := Lib.hid (HB.out.grown HG7.out (by have := Rd.lt HR.out; omega) (fun g e => by cases e; exact Nat.le_refl _))
                have HP1 := Lib.hid (Plain.prn1_of (last := last) HZ7.out)
                clear d1 d4
                have hm16 : many ≤ 16 := by have := hlen.out; omega
                have HLN := Lib.hid (show zs.length + 1 ≤ 16 by have := hlen.out; omega)
                clear hlen
                by_cases hzl : z ≤ last
                · have hp1 := HP1.out
                  rw [if_pos hzl] at hp1
                  go_wp2_with fail
                  refine (fail_st b T s e _ _ _ _ _ HR7.out).mono ?_
                  rintro en w8 ⟨rfl, hr8, hg8⟩
                  have hlt7 := Rd.lt HR7.out
                  rw [← hp1] at hr8
                  have HR8 := Lib.hid hr8; clear hr8
                  have HG8 := Lib.hid hg8; clear hg8
                  have HO8 := Lib.hid (own_grown HO7.out (by omega) HG8.out)
                  have HB8 := Lib.hid (HB7.out.grown HG8.out (by omega) (fun g e => by cases e; exact Nat.le_refl _))
                  clear hp1 HP1 HR7 HO7 HB7
                  obtain ⟨i0, hi, hz0, hz1, hz2⟩ := HI.out
                  have c9 := prnCell hX1 HR8.out
                  have hlt8 := Rd.lt HR8.out
                  go_wp2_with (at_builtin; refine wpList_append_own _ rfl _ _ 22 rfl (b + 1) 3 i0 (.int .i64 0) 1 8 Tryz.underlying22 hi hz0 hz1 hz2 rfl (by decide) _ _ _ rfl (HO8.out.alloc _) ⟨w8.heap.size, 0, none⟩ 1 1 [.int .i64 z] rfl rfl ?_ ?_ ?_ ?_ ?_ ?_; rotate_left 5; intro v' w9 hown9 hg9 _; obtain ⟨g', cap', rfl⟩ := ownsRow_succ hown9; have hr9 := prnGrown HR8.out HO8.out hg9; have c10 := prnCell hX1 hr9; have hfr := Rd.frozen hr9; have HR9 := Lib.hid hr9; clear hr9; have HOW := Lib.hid hown9; clear hown9; have HG9 := Lib.hid hg9; clear hg9)
                  rotate_left 1
                  · exact cell_new_at _ _ _ _ (by simp)
                  · simp [Value.oneCell']
                  · have := HLN.out; simp only [maxLen]; omega
                  · have := HLN.out; omega
                  · simp; omega
                  have HBB := Lib.hid (prnBelow HB8.out HG9.out HO8.out hlt8)
                  go_roundw
                  case rel => exact ⟨z, many - 1, rfl, by go_num, PrnR.next HER.out hm HZ7.out HK.out HE.out HL.out HM.out HR9.out HOW.out HBB.out⟩
                  case measure => simp [intOf]; omega
                · have hp1 := HP1.out
                  rw [if_neg hzl] at hp1
                  have hzl' : last < z := by omega
                  clear hzl
                  have hr7 := HR7.out
                  rw [← hp1] at hr7
                  obtain ⟨w8, hw8⟩ : ∃ w8, w7 = w8 := ⟨_, rfl⟩
                  have HR8 := Lib.hid (hw8 ▸ hr7)
                  have HO8 := Lib.hid (hw8 ▸ HO7.out)
                  have HB8 := Lib.hid (hw8 ▸ HB7.out)
                  rw [hw8]
                  clear hp1 HP1 HR7 HO7 HB7 hr7 hw8 HG7
                  go_upto_region 19 with (fail)
                  obtain ⟨i0, hi, hz0, hz1, hz2⟩ := HI.out
                  have c9 := prnCell hX1 HR8.out
                  have hlt8 := Rd.lt HR8.out
                  go_wp2_with (at_builtin; refine wpList_append_own _ rfl _ _ 22 rfl (b + 1) 3 i0 (.int .i64 0) 1 8 Tryz.underlying22 hi hz0 hz1 hz2 rfl (by decide) _ _ _ rfl (HO8.out.alloc _) ⟨w8.heap.size, 0, none⟩ 1 1 [.int .i64 z] rfl rfl ?_ ?_ ?_ ?_ ?_ ?_; rotate_left 5; intro v' w9 hown9 hg9 _; obtain ⟨g', cap', rfl⟩ := ownsRow_succ hown9; have hr9 := prnGrown HR8.out HO8.out hg9; have c10 := prnCell hX1 hr9; have hfr := Rd.frozen hr9; have HR9 := Lib.hid hr9; clear hr9; have HOW := Lib.hid hown9; clear hown9; have HG9 := Lib.hid hg9; clear hg9)
                  rotate_left 1
                  · exact cell_new_at _ _ _ _ (by simp)
                  · simp [Value.oneCell']
                  · have := HLN.out; simp only [maxLen]; omega
                  · have := HLN.out; omega
                  · simp; omega
                  have HBB := Lib.hid (prnBelow HB8.out HG9.out HO8.out hlt8)
                  go_roundw
                  case rel => exact ⟨z, many - 1, rfl, by go_num, PrnR.next HER.out hm HZ7.out HK.out HE.out HL.out HM.out HR9.out HOW.out HBB.out⟩
                  case measure => simp [intOf]; omega
              · have HD := Lib.hid (Plain.prn_done (Or.inr (by omega)) HE.out HL.out)
                clear d1
                go_wp2_with fail
                go_end0
                exact prnEnd hX1 HX0.out HD.out HR.out HO.out HX2.out HB.out
            · have HD := Lib.hid (Plain.prn_done (Or.inl her) HE.out HL.out)
              have hq : (st'.er == 0) = false := beq_eq_false_iff_ne.2 her
              clear d1 her
              by_cases hm : 0 < many
              · go_wp2_with fail
                go_end0
                exact prnEnd hX1 HX0.out HD.out HR.out HO.out HX2.out HB.out
              · go_wp2_with fail
                go_end0
                exact prnEnd hX1 HX0.out HD.out HR.out HO.out HX2.out HB.out
end Go.Proofs.YteeekdffbcbamaaGreatDoor
