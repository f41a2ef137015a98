/-
  WALKS: the error of a sentence (package report): the ways ahead of the kinds; a channel, a text.
-/
import Derived.Test.YteeekdffbcbamaaGreatDoorExtra1
import Derived.Test.YteeekdffbcbamaaGreatDoorExtra2
import Derived.Test.YteeekdffbcbamaaGreatDoorExtra3
import Derived.Test.YteeekdffbcbamaaGreatDoorG5
import Derived.StillTailTactics
import Derived.Laws.Bits128
namespace Go.Proofs.YteeekdffbcbamaaGreatDoor
open Go.RowKit

/-- A list of numbers behind a slice. -/
def PrL (w : World) (A : Option Addr) (l : List Int) : Prop := ∀ j (h : j < l.length), ∃ ad, A = some ad ∧ w.cell? (ad.add j) = some (.int .i64 l[j])
theorem PrL.below {w w' : World} {B : Nat} {A : Option Addr} {l : List Int} (h : PrL w A l) (hb : Below B w w') (hB : w.heap.size ≤ B) : PrL w' A l := by
  intro j hj
  obtain ⟨ad, hA, hc⟩ := h j hj
  exact ⟨ad, hA, (hb.cell (Nat.lt_of_lt_of_le (cell_lt hc) hB)).trans hc⟩
/-- What a call that only makes memory comes to. -/
def CheckPost (w : World) (r : Int) (en : Ending) (w' : World) : Prop := en = .returned (.int .i64 r) ∧ Below w.heap.size w w'
theorem one_alloc {w w1 : World} {o : Obj} (hb : Below (w.alloc o).heap.size (w.alloc o) w1) : Below w.heap.size w w1 := ((Below.refl _ _).alloc (Nat.le_refl _) _).trans (hb.mono (by simp))
section
variable (x : Plain.Sn) (A : Option Addr) (n c : Nat) (w : World)
theorem check_kind (h1 : x.kind ≠ 1) (h2 : x.kind ≠ 2) (h3 : x.kind ≠ 3) : Calls Tryz.prog 21 #[.agg (snCells x (.slice A n c))] w (CheckPost w 3) := by
  unfold snCells
  generalize x.kind = k at *
  have q1 : (k == 1) = false := by simpa using h1
  have q2 : (k == 2) = false := by simpa using h2
  have q3 : (k == 3) = false := by simpa using h3
  have p1 : (k != 1) = true := by simpa using h1
  have p2 : (k != 2) = true := by simpa using h2
  have p3 : (k != 3) = true := by simpa using h3
  clear h1 h2 h3
  go_enter Tryz.func21, Tryz.ntmps21
  go_wp2_with fail
  go_ret
  exact ⟨rfl, (Below.refl _ _).alloc (Nat.le_refl _) _⟩
theorem check_time1 (hk : x.kind = 1) (ht : Plain.inR x.time 0 604799999 = false) : Calls Tryz.prog 21 #[.agg (snCells x (.slice A n c))] w (CheckPost w 2) := by
  unfold snCells
  rw [hk]
  clear hk
  have HT := Lib.hid (fun W => within_any x.time 0 604799999 false W ht)
  clear ht
  go_enter Tryz.func21, Tryz.ntmps21
  go_wp2_with fail
  refine (HT.out _).mono ?_
  rintro en w1 ⟨rfl, rfl⟩
  go_wp2_with fail
  go_ret
  exact ⟨rfl, (Below.refl _ _).alloc (Nat.le_refl _) _⟩
theorem check_time2 (hk : x.kind = 2) (ht : Plain.inR x.time 0 604799999 = false) : Calls Tryz.prog 21 #[.agg (snCells x (.slice A n c))] w (CheckPost w 2) := by
  unfold snCells
  rw [hk]
  clear hk
  have HT := Lib.hid (fun W => within_any x.time 0 604799999 false W ht)
  clear ht
  go_enter Tryz.func21, Tryz.ntmps21
  go_wp2_with fail
  refine (HT.out _).mono ?_
  rintro en w1 ⟨rfl, rfl⟩
  go_wp2_with fail
  go_ret
  exact ⟨rfl, (Below.refl _ _).alloc (Nat.le_refl _) _⟩
theorem check_time3 (hk : x.kind = 3) (ht : Plain.inR x.time 0 604799999 = false) : Calls Tryz.prog 21 #[.agg (snCells x (.slice A n c))] w (CheckPost w 2) := by
  unfold snCells
  rw [hk]
  clear hk
  have HT := Lib.hid (fun W => within_any x.time 0 604799999 false W ht)
  clear ht
  go_enter Tryz.func21, Tryz.ntmps21
  go_wp2_with fail
  refine (HT.out _).mono ?_
  rintro en w1 ⟨rfl, rfl⟩
  go_wp2_with fail
  go_ret
  exact ⟨rfl, (Below.refl _ _).alloc (Nat.le_refl _) _⟩
theorem check_extra1 (hk : x.kind = 1) (ht : Plain.inR x.time 0 604799999 = true) (hx : (x.prn = 0 ∧ x.lag = 0 ∧ x.power = 0 ∧ x.text.data.toList = []) ↔ (true : Bool) = false) : Calls Tryz.prog 21 #[.agg (snCells x (.slice A n c))] w (CheckPost w 3) := by
  unfold snCells
  rw [hk]
  clear hk
  have HT := Lib.hid (fun W => within_any x.time 0 604799999 true W ht)
  have HX := Lib.hid (fun W => extra_1 x.time x.ok x.p0 x.p1 x.p2 x.l0 x.l1 x.l2 A n c x.prn x.lag x.power x.text W true hx)
  clear ht hx
  go_enter Tryz.func21, Tryz.ntmps21
  go_wp2_with fail
  refine (HT.out _).mono ?_
  rintro en w1 ⟨rfl, rfl⟩
  go_wp2_with fail
  refine (HX.out _).mono ?_
  rintro en w1 ⟨rfl, hb1⟩
  have HB1 := Lib.hid hb1; clear hb1
  go_wp2_with fail
  go_ret
  exact ⟨rfl, one_alloc HB1.out⟩
theorem check_extra2 (hk : x.kind = 2) (ht : Plain.inR x.time 0 604799999 = true) (hx : (x.p0 = 0 ∧ x.p1 = 0 ∧ x.p2 = 0 ∧ x.l0 = 0 ∧ x.l1 = 0 ∧ x.l2 = 0 ∧ n = 0 ∧ x.text.data.toList = []) ↔ (true : Bool) = false) : Calls Tryz.prog 21 #[.agg (snCells x (.slice A n c))] w (CheckPost w 3) := by
  unfold snCells
  rw [hk]
  clear hk
  have HT := Lib.hid (fun W => within_any x.time 0 604799999 true W ht)
  have HX := Lib.hid (fun W => extra_2 x.time x.ok x.p0 x.p1 x.p2 x.l0 x.l1 x.l2 A n c x.prn x.lag x.power x.text W true hx)
  clear ht hx
  go_enter Tryz.func21, Tryz.ntmps21
  go_wp2_with fail
  refine (HT.out _).mono ?_
  rintro en w1 ⟨rfl, rfl⟩
  go_wp2_with fail
  refine (HX.out _).mono ?_
  rintro en w1 ⟨rfl, hb1⟩
  have HB1 := Lib.hid hb1; clear hb1
  go_wp2_with fail
  go_ret
  exact ⟨rfl, one_alloc HB1.out⟩
theorem check_extra3 (hk : x.kind = 3) (ht : Plain.inR x.time 0 604799999 = true) (hx : (x.ok = false ∧ x.p0 = 0 ∧ x.p1 = 0 ∧ x.p2 = 0 ∧ x.l0 = 0 ∧ x.l1 = 0 ∧ x.l2 = 0 ∧ n = 0 ∧ x.prn = 0 ∧ x.lag = 0 ∧ x.power = 0) ↔ (true : Bool) = false) : Calls Tryz.prog 21 #[.agg (snCells x (.slice A n c))] w (CheckPost w 3) := by
  unfold snCells
  rw [hk]
  clear hk
  have HT := Lib.hid (fun W => within_any x.time 0 604799999 true W ht)
  have HX := Lib.hid (fun W => extra_3 x.time x.ok x.p0 x.p1 x.p2 x.l0 x.l1 x.l2 A n c x.prn x.lag x.power x.text W true hx)
  clear ht hx
  go_enter Tryz.func21, Tryz.ntmps21
  go_wp2_with fail
  refine (HT.out _).mono ?_
  rintro en w1 ⟨rfl, rfl⟩
  go_wp2_with fail
  refine (HX.out _).mono ?_
  rintro en w1 ⟨rfl, hb1⟩
  have HB1 := Lib.hid hb1; clear hb1
  go_wp2_with fail
  go_ret
  exact ⟨rfl, one_alloc HB1.out⟩
set_option maxHeartbeats 2000000 in
theorem check_chan (hk : x.kind = 2) (ht : Plain.inR x.time 0 604799999 = true) (hx : (x.p0 = 0 ∧ x.p1 = 0 ∧ x.p2 = 0 ∧ x.l0 = 0 ∧ x.l1 = 0 ∧ x.l2 = 0 ∧ n = 0 ∧ x.text.data.toList = []) ↔ (false : Bool) = false) : Calls Tryz.prog 21 #[.agg (snCells x (.slice A n c))] w (CheckPost w (Plain.chanE x)) := by
  obtain ⟨R, hR⟩ : ∃ R, Plain.chanE x = R := ⟨_, rfl⟩
  rw [hR]
  unfold Plain.chanE at hR
  obtain ⟨r1, h1⟩ : ∃ r, Plain.inR x.prn 1 63 = r := ⟨_, rfl⟩
  obtain ⟨r2, h2⟩ : ∃ r, Plain.inR x.lag 0 8191 = r := ⟨_, rfl⟩
  obtain ⟨r3, h3⟩ : ∃ r, Plain.inR x.power 0 1000000000000000000 = r := ⟨_, rfl⟩
  rw [h1, h2, h3] at hR
  have HRR := Lib.hid hR; clear hR
  have H1 := Lib.hid (fun W => within_any _ _ _ _ W h1)
  have H2 := Lib.hid (fun W => within_any _ _ _ _ W h2)
  have H3 := Lib.hid (fun W => within_any _ _ _ _ W h3)
  clear h1 h2 h3
  unfold snCells
  rw [hk]
  clear hk
  have HT := Lib.hid (fun W => within_any x.time 0 604799999 true W ht)
  have HX := Lib.hid (fun W => extra_2 x.time x.ok x.p0 x.p1 x.p2 x.l0 x.l1 x.l2 A n c x.prn x.lag x.power x.text W false hx)
  clear ht hx
  go_enter Tryz.func21, Tryz.ntmps21
  go_wp2_with fail
  refine (HT.out _).mono ?_
  rintro en w1 ⟨rfl, rfl⟩
  go_wp2_with fail
  refine (HX.out _).mono ?_
  rintro en w1 ⟨rfl, hb1⟩
  have HB1 := Lib.hid hb1; clear hb1
  obtain ⟨k0, k1, k2, k3, k4, k5, k6, k7, k8, k9, k10, k11, k12, k13⟩ := Blk.cells14 (Blk.below (heap_alloc_new w _) HB1.out (by simp) : Blk w1 w.heap.size 28 #[.int .i64 2, .int .i64 x.time, .bool x.ok, .int .i64 x.p0, .int .i64 x.p1, .int .i64 x.p2, .int .i64 x.l0, .int .i64 x.l1, .int .i64 x.l2, .slice A n c, .int .i64 x.prn, .int .i64 x.lag, .int .i64 x.power, .string x.text])
  cases r1
  · obtain rfl : R = 2 := by have := HRR.out; simpa using this.symm
    go_wp2_with fail
    refine (H1.out _).mono ?_
    rintro en w2 ⟨rfl, rfl⟩
    go_wp2_with fail
    go_ret
    exact ⟨rfl, one_alloc HB1.out⟩
  · cases r2
    · obtain rfl : R = 2 := by have := HRR.out; simpa using this.symm
      go_wp2_with fail
      refine (H1.out _).mono ?_
      rintro en w2 ⟨rfl, rfl⟩
      go_wp2_with fail
      refine (H2.out _).mono ?_
      rintro en w2 ⟨rfl, rfl⟩
      go_wp2_with fail
      go_ret
      exact ⟨rfl, one_alloc HB1.out⟩
    · cases r3
      · obtain rfl : R = 2 := by have := HRR.out; simpa using this.symm
        go_wp2_with fail
        refine (H1.out _).mono ?_
        rintro en w2 ⟨rfl, rfl⟩
        go_wp2_with fail
        refine (H2.out _).mono ?_
        rintro en w2 ⟨rfl, rfl⟩
        go_wp2_with fail
        refine (H3.out _).mono ?_
        rintro en w2 ⟨rfl, rfl⟩
        go_wp2_with fail
        go_ret
        exact ⟨rfl, one_alloc HB1.out⟩
      · obtain rfl : R = 0 := by have := HRR.out; simpa using this.symm
        go_wp2_with fail
        refine (H1.out _).mono ?_
        rintro en w2 ⟨rfl, rfl⟩
        go_wp2_with fail
        refine (H2.out _).mono ?_
        rintro en w2 ⟨rfl, rfl⟩
        go_wp2_with fail
        refine (H3.out _).mono ?_
        rintro en w2 ⟨rfl, rfl⟩
        go_wp2_with fail
        go_ret
        exact ⟨rfl, one_alloc HB1.out⟩
set_option maxHeartbeats 2000000 in
theorem check_text (hk : x.kind = 3) (ht : Plain.inR x.time 0 604799999 = true) (hs : x.text.size ≤ 1000000) (hx : (x.ok = false ∧ x.p0 = 0 ∧ x.p1 = 0 ∧ x.p2 = 0 ∧ x.l0 = 0 ∧ x.l1 = 0 ∧ x.l2 = 0 ∧ n = 0 ∧ x.prn = 0 ∧ x.lag = 0 ∧ x.power = 0) ↔ (false : Bool) = false) : Calls Tryz.prog 21 #[.agg (snCells x (.slice A n c))] w (CheckPost w (Plain.textE x.text.data.toList)) := by
  obtain ⟨r, hr⟩ : ∃ r, Plain.textE x.text.data.toList = r := ⟨_, rfl⟩
  rw [hr]
  have HR := Lib.hid (fun W => texted_any x.text W hs r hr)
  clear hr
  unfold snCells
  rw [hk]
  clear hk
  have HT := Lib.hid (fun W => within_any x.time 0 604799999 true W ht)
  have HX := Lib.hid (fun W => extra_3 x.time x.ok x.p0 x.p1 x.p2 x.l0 x.l1 x.l2 A n c x.prn x.lag x.power x.text W false hx)
  clear ht hx
  go_enter Tryz.func21, Tryz.ntmps21
  go_wp2_with fail
  refine (HT.out _).mono ?_
  rintro en w1 ⟨rfl, rfl⟩
  go_wp2_with fail
  refine (HX.out _).mono ?_
  rintro en w1 ⟨rfl, hb1⟩
  have HB1 := Lib.hid hb1; clear hb1
  obtain ⟨k0, k1, k2, k3, k4, k5, k6, k7, k8, k9, k10, k11, k12, k13⟩ := Blk.cells14 (Blk.below (heap_alloc_new w _) HB1.out (by simp) : Blk w1 w.heap.size 28 #[.int .i64 3, .int .i64 x.time, .bool x.ok, .int .i64 x.p0, .int .i64 x.p1, .int .i64 x.p2, .int .i64 x.l0, .int .i64 x.l1, .int .i64 x.l2, .slice A n c, .int .i64 x.prn, .int .i64 x.lag, .int .i64 x.power, .string x.text])
  go_wp2_with fail
  refine (HR.out _).mono ?_
  rintro en w2 ⟨rfl, rfl⟩
  go_wp2_with fail
  go_ret
  exact ⟨rfl, one_alloc HB1.out⟩
end
end Go.Proofs.YteeekdffbcbamaaGreatDoor
/-
  WALKS: the error of a fix (package report).
-/
namespace Go.Proofs.YteeekdffbcbamaaGreatDoor
open Go.RowKit

theorem add_zero' (a : Addr) : a.add 0 = a := by unfold Addr.add; rw [if_pos rfl]
theorem posCell {w : World} {g : Nat} {t : TypeId} {x : Plain.Sn} {k0 : Int} {v : Value} (h : Blk w g t #[.int .i64 k0, .int .i64 x.time, .bool x.ok, .int .i64 x.p0, .int .i64 x.p1, .int .i64 x.p2, .int .i64 x.l0, .int .i64 x.l1, .int .i64 x.l2, v, .int .i64 x.prn, .int .i64 x.lag, .int .i64 x.power, .string x.text]) {k : Nat} (hk : k < 3) :
    w.cell? ⟨g, 3 + k, none⟩ = some (.int .i64 (Plain.pos x k)) ∧ w.cell? ⟨g, 6 + k, none⟩ = some (.int .i64 (Plain.lev x k)) := by
  have h3 : k = 0 ∨ k = 1 ∨ k = 2 := by omega
  rcases h3 with rfl | rfl | rfl
  · exact ⟨h.cell 3, h.cell 6⟩
  · exact ⟨h.cell 4, h.cell 7⟩
  · exact ⟨h.cell 5, h.cell 8⟩
section
variable (x : Plain.Sn) (A : Option Addr) (n c : Nat) (w : World)
set_option maxHeartbeats 4000000 in
theorem check_fix (hk : x.kind = 1) (ht : Plain.inR x.time 0 604799999 = true) (hx : (x.prn = 0 ∧ x.lag = 0 ∧ x.power = 0 ∧ x.text.data.toList = []) ↔ (false : Bool) = false) (hn : x.prns.length = n) (hN : PrL w A x.prns) (hnm : n ≤ 9223372036854775807) :
    Calls Tryz.prog 21 #[.agg (snCells x (.slice A n c))] w (CheckPost w (Plain.fixE x)) := by
  obtain ⟨R, hR⟩ : ∃ R, Plain.fixE x = R := ⟨_, rfl⟩
  rw [hR]
  have HR := Lib.hid hR; clear hR
  have HLN := Lib.hid hn; clear hn
  have HN := Lib.hid hN; clear hN
  unfold snCells
  rw [hk]
  clear hk
  have HT := Lib.hid (fun W => within_any x.time 0 604799999 true W ht)
  have HX := Lib.hid (fun W => extra_1 x.time x.ok x.p0 x.p1 x.p2 x.l0 x.l1 x.l2 A n c x.prn x.lag x.power x.text W false hx)
  clear ht hx
  go_enter Tryz.func21, Tryz.ntmps21
  go_wp2_with fail
  refine (HT.out _).mono ?_
  rintro en w1 ⟨rfl, rfl⟩
  go_wp2_with fail
  refine (HX.out _).mono ?_
  rintro en w1 ⟨rfl, hb1⟩
  have hlt1 : w.heap.size < w1.heap.size := by have := hb1.size; simp at this; omega
  have HN1 := Lib.hid (HN.out.below (one_alloc hb1) (Nat.le_refl _))
  have HB1 := Lib.hid hb1; clear hb1
  have hblk : Blk w1 w.heap.size 28 #[.int .i64 1, .int .i64 x.time, .bool x.ok, .int .i64 x.p0, .int .i64 x.p1, .int .i64 x.p2, .int .i64 x.l0, .int .i64 x.l1, .int .i64 x.l2, .slice A n c, .int .i64 x.prn, .int .i64 x.lag, .int .i64 x.power, .string x.text] := Blk.below (heap_alloc_new w _) HB1.out (by simp)
  have HBK := Lib.hid hblk
  have k0 := hblk.cell 0
  have k9 := hblk.cell 9
  clear hblk
  go_wp2_with fail
  go_loop [32] (fun i => ∃ k : Nat, k ≤ 3 ∧ i = .int .i64 k ∧ Hid (∀ j, j < k → Plain.levB x j = true)) (fun i => 3 - (intOf i).toNat)
  case atStart => exact ⟨0, by omega, rfl, Lib.hid (fun j hj => absurd hj (by omega))⟩
  case round =>
    obtain ⟨k, hk, rfl, hA⟩ := hrel
    by_cases hlt : k < 3
    · obtain ⟨cp, cl⟩ := posCell HBK.out hlt
      obtain ⟨r1, h1⟩ : ∃ r, Plain.inR (Plain.pos x k) (-10000000000000) 10000000000000 = r := ⟨_, rfl⟩
      obtain ⟨r2, h2⟩ : ∃ r, Plain.inR (Plain.lev x k) 0 10000000000000 = r := ⟨_, rfl⟩
      have hlev : Plain.levB x k = (r1 && r2) := by unfold Plain.levB; rw [h1, h2]
      have HLV := Lib.hid hlev; clear hlev
      have H1 := Lib.hid (fun W => within_any _ _ _ _ W h1); clear h1
      have H2 := Lib.hid (fun W => within_any _ _ _ _ W h2); clear h2
      generalize Plain.pos x k = pk at *
      generalize Plain.lev x k = lk at *
      have hno : (r1 && r2) = false → R = 2 := fun h => by rw [← HR.out, Plain.fixE, if_pos (Plain.levelB_no hlt (HLV.out.trans h))]
      cases r1
      · obtain rfl : R = 2 := hno rfl
        clear hno
        go_wp2_with fail
        refine (H1.out _).mono ?_
        rintro en w2 ⟨rfl, rfl⟩
        go_wp2_with fail
        go_ret
        exact ⟨rfl, one_alloc HB1.out⟩
      · cases r2
        · obtain rfl : R = 2 := hno rfl
          clear hno
          go_wp2_with fail
          refine (H1.out _).mono ?_
          rintro en w2 ⟨rfl, rfl⟩
          go_wp2_with fail
          refine (H2.out _).mono ?_
          rintro en w2 ⟨rfl, rfl⟩
          go_wp2_with fail
          go_ret
          exact ⟨rfl, one_alloc HB1.out⟩
        · clear hno
          go_wp2_with fail
          refine (H1.out _).mono ?_
          rintro en w2 ⟨rfl, rfl⟩
          go_wp2_with fail
          refine (H2.out _).mono ?_
          rintro en w2 ⟨rfl, rfl⟩
          go_wp2_with fail
          go_round
          case rel => exact ⟨k + 1, by omega, by go_num, Lib.hid (fun j hj => by
            by_cases hjk : j < k
            · exact hA.out j hjk
            · obtain rfl : j = k := by omega
              exact HLV.out)⟩
          case measure => simp [intOf]; omega
    · obtain rfl : k = 3 := by omega
      have HLB := Lib.hid (Plain.levelB_yes hA.out)
      clear hk hlt hA
      by_cases h16 : 16 < n
      · obtain rfl : R = 4 := by rw [← HR.out, Plain.fixE, if_neg (by rw [HLB.out]; decide), if_pos (by rw [HLN.out]; exact h16)]
        go_wp2_with fail
        go_ret
        exact ⟨rfl, one_alloc HB1.out⟩
      · have h16' : n ≤ 16 := by omega
        have HRP := Lib.hid (show Plain.prnsE 0 x.prns = R by rw [← HR.out, Plain.fixE, if_neg (by rw [HLB.out]; decide), if_neg (by rw [HLN.out]; exact h16)])
        clear h16
        go_wp2_with fail
        go_loop [57] (fun i => ∃ k : Nat, k ≤ n ∧ i = .int .i64 k ∧ Hid (Plain.prnsE (Plain.lastP x.prns k) (x.prns.drop k) = R)) (fun i => n - (intOf i).toNat)
        case atStart => exact ⟨0, Nat.zero_le _, rfl, Lib.hid HRP.out⟩
        case round =>
          obtain ⟨k, hk, rfl, hP⟩ := hrel
          by_cases hlt : k < n
          · have hkl : k < x.prns.length := by rw [HLN.out]; exact hlt
            obtain ⟨ad, hA, hc⟩ := HN1.out k hkl
            have hst := Plain.prnsE_step hkl
            rw [hP.out] at hst
            have hprev : 0 < k → w1.cell? (ad.add (k - 1)) = some (.int .i64 (Plain.lastP x.prns k)) := fun h0 => by
              obtain ⟨ad', hA', hc'⟩ := HN1.out (k - 1) (by omega)
              rw [hA] at hA'
              obtain rfl : ad = ad' := by simpa using hA'
              rw [Plain.lastP_succ h0 (by omega)]
              exact hc'
            subst hA
            obtain ⟨r1, h1⟩ : ∃ r, Plain.inR x.prns[k] 1 63 = r := ⟨_, rfl⟩
            rw [h1] at hst
            have hrange := Plain.inR_yes (n := x.prns[k]) (lo := 1) (hi := 63)
            rw [h1] at hrange
            have H1 := Lib.hid (fun W => within_any _ _ _ _ W h1); clear h1
            have HQ0 := Lib.hid (show k = 0 → Plain.lastP x.prns k = 0 from fun h => by unfold Plain.lastP; rw [if_pos h])
            generalize x.prns[k] = p at *
            generalize Plain.lastP x.prns k = q at *
            have HST := Lib.hid hst; clear hst
            have HPV := Lib.hid hprev; clear hprev
            have HRG := Lib.hid hrange; clear hrange
            cases r1
            · obtain rfl : R = 2 := by have := HST.out; simpa using this
              go_wp2_with fail
              refine (H1.out _).mono ?_
              rintro en w2 ⟨rfl, rfl⟩
              go_wp2_with fail
              go_ret
              exact ⟨rfl, one_alloc HB1.out⟩
            · have HST2 := Lib.hid (show R = if p ≤ q then 9 else Plain.prnsE (Plain.lastP x.prns (k + 1)) (x.prns.drop (k + 1)) by have := HST.out; simpa using this)
              by_cases h0 : 0 < k
              · have hpv := HPV.out h0
                by_cases hpq : p ≤ q
                · obtain rfl : R = 9 := by rw [HST2.out, if_pos hpq]
                  go_wp2_with fail
                  refine (H1.out _).mono ?_
                  rintro en w2 ⟨rfl, rfl⟩
                  go_wp2_with fail
                  go_ret
                  exact ⟨rfl, one_alloc HB1.out⟩
                · have hpq' : q < p := by omega
                  have HST3 := Lib.hid (HST2.out.trans (if_neg hpq))
                  clear hpq
                  go_wp2_with fail
                  refine (H1.out _).mono ?_
                  rintro en w2 ⟨rfl, rfl⟩
                  go_wp2_with fail
                  go_round
                  case rel => exact ⟨k + 1, by omega, by go_num, Lib.hid HST3.out.symm⟩
                  case measure => simp [intOf]; omega
              · obtain rfl : k = 0 := by omega
                have HST3 := Lib.hid (HST2.out.trans (if_neg (by have := HQ0.out rfl; have := (HRG.out rfl).1; omega)))
                have hc0 : w1.cell? ad = some (.int .i64 p) := by rw [← add_zero' ad]; exact hc
                clear h0 hc
                go_wp2_with fail
                refine (H1.out _).mono ?_
                rintro en w2 ⟨rfl, rfl⟩
                go_wp2_with fail
                go_round
                case rel => exact ⟨0 + 1, by omega, by go_num, Lib.hid HST3.out.symm⟩
                case measure => simp [intOf]; omega
          · obtain rfl : k = n := by omega
            obtain rfl : R = 0 := by
              have := hP.out
              rw [List.drop_of_length_le (by rw [HLN.out]; exact Nat.le_refl _)] at this
              exact this.symm
            clear hP
            go_wp2_with fail
            go_ret
            exact ⟨rfl, one_alloc HB1.out⟩
end
end Go.Proofs.YteeekdffbcbamaaGreatDoor
/-
  WALKS, joined: the error of any sentence (package report).
-/
namespace Go.Proofs.YteeekdffbcbamaaGreatDoor
open Go.RowKit

theorem check_any (x : Plain.Sn) (A : Option Addr) (c : Nat) (w : World) (hN : PrL w A x.prns) (hs : x.text.size ≤ 1000000) (hn : x.prns.length ≤ 9223372036854775807) :
    Calls Tryz.prog 21 #[.agg (snCells x (.slice A x.prns.length c))] w (CheckPost w (Plain.checkE x)) := by
  have hl : x.prns.length = 0 ↔ x.prns = [] := List.length_eq_zero_iff
  by_cases hk : x.kind ≠ 1 ∧ x.kind ≠ 2 ∧ x.kind ≠ 3
  · rw [Plain.checkE_kind hk]
    exact check_kind x A _ c w hk.1 hk.2.1 hk.2.2
  · have hk3 : x.kind = 1 ∨ x.kind = 2 ∨ x.kind = 3 := by omega
    cases ht : Plain.inR x.time 0 604799999
    · rw [Plain.checkE_time hk3 ht]
      rcases hk3 with h | h | h
      · exact check_time1 x A _ c w h ht
      · exact check_time2 x A _ c w h ht
      · exact check_time3 x A _ c w h ht
    · rcases hk3 with h | h | h
      · obtain ⟨e1, e2⟩ := Plain.checkE_1 h ht
        by_cases hf : Plain.fixOnly x
        · rw [e1 hf]
          exact check_fix x A _ c w h ht ⟨fun _ => rfl, fun _ => hf⟩ rfl hN hn
        · rw [e2 hf]
          exact check_extra1 x A _ c w h ht ⟨fun h => absurd h hf, fun h => by cases h⟩
      · obtain ⟨e1, e2⟩ := Plain.checkE_2 h ht
        have hiff : (x.p0 = 0 ∧ x.p1 = 0 ∧ x.p2 = 0 ∧ x.l0 = 0 ∧ x.l1 = 0 ∧ x.l2 = 0 ∧ x.prns.length = 0 ∧ x.text.data.toList = []) ↔ Plain.chanOnly x := by rw [hl]; exact Iff.rfl
        by_cases hf : Plain.chanOnly x
        · rw [e1 hf]
          exact check_chan x A _ c w h ht ⟨fun _ => rfl, fun _ => hiff.2 hf⟩
        · rw [e2 hf]
          exact check_extra2 x A _ c w h ht ⟨fun h => absurd (hiff.1 h) hf, fun h => by cases h⟩
      · obtain ⟨e1, e2⟩ := Plain.checkE_3 h ht
        have hiff : (x.ok = false ∧ x.p0 = 0 ∧ x.p1 = 0 ∧ x.p2 = 0 ∧ x.l0 = 0 ∧ x.l1 = 0 ∧ x.l2 = 0 ∧ x.prns.length = 0 ∧ x.prn = 0 ∧ x.lag = 0 ∧ x.power = 0) ↔ Plain.textOnly x := by rw [hl]; exact Iff.rfl
        by_cases hf : Plain.textOnly x
        · rw [e1 hf]
          exact check_text x A _ c w h ht hs ⟨fun _ => rfl, fun _ => hiff.2 hf⟩
        · rw [e2 hf]
          exact check_extra3 x A _ c w h ht ⟨fun h => absurd (hiff.1 h) hf, fun h => by cases h⟩
end Go.Proofs.YteeekdffbcbamaaGreatDoor
/-
  PLAIN: the line of a sentence.
-/
namespace Go.Proofs.YteeekdffbcbamaaGreatDoor
open Go.RowKit

/-- The fields of a sentence's line. -/
def fieldsT (x : Plain.Sn) : List ByteArray :=
  if x.kind = 1 then [(⟨#[70, 73, 88]⟩ : ByteArray)] ++ [x.time, oneI x.ok].map itoaB ++ [x.p0, x.p1, x.p2].map itoaB ++ [x.l0, x.l1, x.l2].map itoaB ++ [(x.prns.length : Int)].map itoaB ++ x.prns.map itoaB
  else if x.kind = 2 then [(⟨#[83, 65, 84]⟩ : ByteArray)] ++ [x.time, oneI x.ok, x.prn, x.lag, x.power].map itoaB
  else [(⟨#[84, 88, 84]⟩ : ByteArray)] ++ [x.time].map itoaB ++ [x.text]
def bodyT (x : Plain.Sn) : ByteArray := joinB (fieldsT x)
def hexB : ByteArray := ⟨#[48, 49, 50, 51, 52, 53, 54, 55, 56, 57, 65, 66, 67, 68, 69, 70]⟩
/-- The line around a text. -/
def wrapB (b : ByteArray) : ByteArray :=
  (((⟨#[36]⟩ : ByteArray) ++ b) ++ ⟨#[42]⟩) ++ hexB.extract (Plain.sumN b.data.toList / 16) (Plain.sumN b.data.toList / 16 + 1) ++ hexB.extract (Plain.sumN b.data.toList % 16) (Plain.sumN b.data.toList % 16 + 1)
def lineB (x : Plain.Sn) : ByteArray := wrapB (bodyT x)
namespace Plain
theorem zero_kind {x : Sn} (h : checkE x = 0) : x.kind = 1 ∨ x.kind = 2 ∨ x.kind = 3 := by
  by_cases hk : x.kind ≠ 1 ∧ x.kind ≠ 2 ∧ x.kind ≠ 3
  · rw [checkE_kind hk] at h; cases h
  · omega
theorem zero_time {x : Sn} (h : checkE x = 0) : 0 ≤ x.time ∧ x.time ≤ 604799999 := by
  cases ht : inR x.time 0 604799999
  · rw [checkE_time (zero_kind h) ht] at h; cases h
  · exact inR_yes ht
theorem zero_inR {x : Sn} (h : checkE x = 0) : inR x.time 0 604799999 = true := by
  obtain ⟨h1, h2⟩ := zero_time h
  unfold inR
  simp [h1, h2]
theorem zero_1 {x : Sn} (h : checkE x = 0) (hk : x.kind = 1) : fixOnly x ∧ levelB x = true ∧ x.prns.length ≤ 16 ∧ prnsE 0 x.prns = 0 := by
  obtain ⟨e1, e2⟩ := checkE_1 hk (zero_inR h)
  by_cases hf : fixOnly x
  · rw [e1 hf] at h
    unfold fixE at h
    by_cases h1 : levelB x = false
    · rw [if_pos h1] at h; cases h
    · rw [if_neg h1] at h
      by_cases h2 : 16 < x.prns.length
      · rw [if_pos h2] at h; cases h
      · rw [if_neg h2] at h
        exact ⟨hf, by simpa using h1, by omega, h⟩
  · rw [e2 hf] at h; cases h
theorem zero_2 {x : Sn} (h : checkE x = 0) (hk : x.kind = 2) : chanOnly x ∧ (1 ≤ x.prn ∧ x.prn ≤ 63) ∧ (0 ≤ x.lag ∧ x.lag ≤ 8191) ∧ (0 ≤ x.power ∧ x.power ≤ 1000000000000000000) := by
  obtain ⟨e1, e2⟩ := checkE_2 hk (zero_inR h)
  by_cases hf : chanOnly x
  · rw [e1 hf] at h
    unfold chanE at h
    by_cases h1 : (inR x.prn 1 63 && inR x.lag 0 8191 && inR x.power 0 1000000000000000000) = false
    · rw [if_pos h1] at h; cases h
    · have h2 : inR x.prn 1 63 = true ∧ inR x.lag 0 8191 = true ∧ inR x.power 0 1000000000000000000 = true := by simpa using h1
      exact ⟨hf, inR_yes h2.1, inR_yes h2.2.1, inR_yes h2.2.2⟩
  · rw [e2 hf] at h; cases h
theorem zero_3 {x : Sn} (h : checkE x = 0) (hk : x.kind = 3) : textOnly x ∧ textE x.text.data.toList = 0 := by
  obtain ⟨e1, e2⟩ := checkE_3 hk (zero_inR h)
  by_cases hf : textOnly x
  · rw [e1 hf] at h; exact ⟨hf, h⟩
  · rw [e2 hf] at h; cases h
theorem level_range {x : Sn} (h : levelB x = true) : ∀ z ∈ [x.p0, x.p1, x.p2, x.l0, x.l1, x.l2], -10000000000000 ≤ z ∧ z ≤ 10000000000000 := by
  unfold levelB levB at h
  simp only [Bool.and_eq_true] at h
  obtain ⟨⟨⟨a1, a2⟩, ⟨b1, b2⟩⟩, ⟨c1, c2⟩⟩ := h
  have a1 := inR_yes a1; have a2 := inR_yes a2; have b1 := inR_yes b1; have b2 := inR_yes b2; have c1 := inR_yes c1; have c2 := inR_yes c2
  simp [pos, lev] at a1 a2 b1 b2 c1 c2
  intro z hz
  simp at hz
  rcases hz with rfl | rfl | rfl | rfl | rfl | rfl <;> omega
theorem text_le {l : List UInt8} (h : textE l = 0) : l.length ≤ 80 ∧ l.all fitB = true := by
  unfold textE at h
  by_cases h1 : 80 < l.length
  · rw [if_pos h1] at h; cases h
  · rw [if_neg h1] at h
    by_cases h2 : l.all fitB = true
    · exact ⟨by omega, h2⟩
    · rw [if_neg h2] at h; cases h
end Plain
end Go.Proofs.YteeekdffbcbamaaGreatDoor
/-
  WALKS: the line of a sentence that is right (package report): what the ways share.
-/
namespace Go.Proofs.YteeekdffbcbamaaGreatDoor
open Go.RowKit

theorem and15 (m q r : Nat) (h : m < 256) (hq : m / 16 = q) (hr : m % 16 = r) : bits .and .i64 (m : Int) 15 = (r : Int) ∧ (m : Int) / 16 = (q : Int) := by
  subst hq hr
  have hh : ∀ k : Fin 256, bits .and .i64 (k.val : Int) 15 = ((k.val % 16 : Nat) : Int) := by decide +kernel
  exact ⟨hh ⟨m, h⟩, by omega⟩
theorem Blk.new_at {w : World} {g : Nat} {t : TypeId} {cs : Array Value} (h : g = w.heap.size) : Blk (w.alloc (.cells cs t)) g t cs := by subst h; exact heap_alloc_new w _
theorem below_drewN {B : Nat} {a w : World} (h : Below B a w) (n : Nat) : Below B a (w.drewN n) := ⟨h.os, h.tape, h.output, h.size, h.block⟩
theorem fld_lit {w : World} {f g : Nat} {x : ByteArray} (hf : Blk w f 94 #[.slice (some ⟨g, 0, none⟩) 1 1]) (hg : Blk w g 9 #[.string x]) (hfg : f < g) : FldR w f [x] :=
  ⟨_, hf, ⟨by simp, Or.inr ⟨g, 1, #[.string x], rfl, hfg, hg, Nat.le_refl _, by unfold maxLen; omega, rfl, rfl⟩⟩⟩
theorem num_blk {w : World} {f g : Nat} {cs : Array Value} {l : List Int} (hg : Blk w g 3 cs) (hfg : f < g) (hc : ∀ j (h : j < l.length), cs[j]? = some (.int .i64 l[j])) : NumAt w f (some ⟨g, 0, none⟩) l := by
  intro j hj
  refine ⟨_, rfl, Or.inr ⟨hfg, cs, hg⟩, ?_⟩
  have e : (⟨g, 0, none⟩ : Addr).add j = ⟨g, j, none⟩ := by
    unfold Addr.add
    split
    · subst_vars; rfl
    · simp
  rw [e, hg.cell]
  exact hc j hj
theorem num_low {w : World} {f : Nat} {A : Option Addr} {l : List Int} (h : PrL w A l) (hf : w.heap.size ≤ f) : NumAt w f A l := by
  intro j hj
  obtain ⟨ad, hA, hc⟩ := h j hj
  have := cell_lt hc
  rw [add_block] at this
  exact ⟨ad, hA, Or.inl (by omega), hc⟩
theorem num_lowB {w w' : World} {f : Nat} {A : Option Addr} {l : List Int} (h : PrL w A l) (hb : Below w.heap.size w w') (hf : w.heap.size ≤ f) : NumAt w' f A l := by
  intro j hj
  obtain ⟨ad, hA, hc⟩ := h j hj
  have hlt := cell_lt hc
  exact ⟨ad, hA, Or.inl (by rw [add_block] at hlt; omega), (hb.cell hlt).trans hc⟩
theorem num_in {w : World} {f g o : Nat} {t : TypeId} {cs : Array Value} {l : List Int} (h : Blk w g t cs) (hf : g < f) (hc : ∀ j (h : j < l.length), cs[o + j]? = some (.int .i64 l[j])) : NumAt w f (some ⟨g, o, none⟩) l := by
  intro j hj
  refine ⟨_, rfl, Or.inl hf, ?_⟩
  have e : (⟨g, o, none⟩ : Addr).add j = ⟨g, o + j, none⟩ := by
    unfold Addr.add
    split
    · subst_vars; rfl
    · rfl
  rw [e, h.cell]
  exact hc j hj
theorem fblk5 {w5 w6 : World} {f m : Nat} {v : Value} {us : List Value} {o : Obj} (h : Blk w5 f 94 #[v]) (ho : w5.ownsRow (f + 1) 9 1 v m us) (hg : (w5.alloc o).grownBy w6 v.ownBlock) : Blk w6 f 94 #[v] :=
  (h.alloc o).grown hg (Ne.symm (own_ne ho (by omega)))
theorem fld_push {w w5 w6 : World} {B f gg cap : Nat} {v : Value} {ss : List ByteArray} {x : ByteArray} {o : Obj} (h : Blk w5 f 94 #[v]) (ho : w5.ownsRow (f + 1) 9 1 v ss.length (ss.map Value.string)) (hg : (w5.alloc o).grownBy w6 v.ownBlock)
    (ho6 : w6.ownsRow (f + 1) 9 1 (.slice (some ⟨gg, 0, none⟩) (ss.length + 1) cap) (ss.length + 1) (ss.map Value.string ++ [.string x])) (hB : Below B w w5) (hBf : B ≤ f) :
    FldR (w6.setCell ⟨f, 0, none⟩ (.slice (some ⟨gg, 0, none⟩) (ss.length + 1) cap)) f (ss ++ [x]) ∧ Below B w (w6.setCell ⟨f, 0, none⟩ (.slice (some ⟨gg, 0, none⟩) (ss.length + 1) cap)) := by
  have hlt := h.lt
  refine ⟨⟨_, (fblk5 h ho hg).set_ 0 _, ?_⟩, ?_⟩
  · rw [List.length_append, List.map_append]
    exact ownsRow_setCell_below ho6 (by show f < f + 1; omega) _
  · exact (((hB.alloc (by omega) o).grown hg (by simp; omega) (fun g e => by have := own_ge ho e; omega))).setCell hBf _
/-- Where all fields are there. -/
structure EndR (w w5 : World) (f : Nat) (x : Plain.Sn) : Prop where
  fld : FldR w5 f (fieldsT x)
  low : f = w.heap.size + 1
  bel : Below w.heap.size w w5
theorem join_len (xs : List (List UInt8)) : (Lib.join xs [44]).length ≤ (xs.map List.length).sum + xs.length := by
  induction xs with
  | nil => simp [Lib.join]
  | cons a r ih =>
    cases r with
    | nil => simp [Lib.join]
    | cons b r =>
      have e : Lib.join (a :: b :: r) [44] = a ++ ([44] ++ Lib.join (b :: r) [44]) := by simp [Lib.join, List.intercalate, List.intersperse]
      rw [e]
      simp only [List.length_append, List.length_cons, List.map_cons, List.sum_cons, List.length_nil] at ih ⊢
      omega
theorem sum_le (xs : List ByteArray) (m : Nat) (h : ∀ y ∈ xs, y.size ≤ m) : ((xs.map (·.data.toList)).map List.length).sum ≤ xs.length * m := by
  induction xs with
  | nil => simp
  | cons a r ih =>
    have h1 := h a (by simp)
    have h2 := ih (fun y hy => h y (by simp [hy]))
    simp only [List.map_cons, List.sum_cons, List.length_cons, Plain.len_size, Nat.succ_mul]
    omega
theorem body_le (x : Plain.Sn) (h : ∀ y ∈ fieldsT x, y.size ≤ 80) (hl : (fieldsT x).length ≤ 30) : (Lib.join ((fieldsT x).map (·.data.toList)) [44]).length ≤ 3000 := by
  have h1 := join_len ((fieldsT x).map (·.data.toList))
  have h2 := sum_le _ _ h
  have h3 : (fieldsT x).length * 80 ≤ 30 * 80 := Nat.mul_le_mul_right _ hl
  rw [List.length_map] at h1
  omega
end Go.Proofs.YteeekdffbcbamaaGreatDoor
