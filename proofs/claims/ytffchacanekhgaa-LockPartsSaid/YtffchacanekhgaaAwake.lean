/-
  WALKS: awake.
-/
import Derived.Test.YtffchacanekhgaaReach
namespace Go.Proofs.Ytffchacanekhgaa
open Go.RowKit

/-- An owned row of bools reads as its list. -/
theorem own_reads {w : World} {base n : Nat} {v : Value} {xs : List Bool} (h : w.ownsRow base 4 1 v n (xs.map Value.bool)) : xs.length = n ∧ ∃ A c, v = .slice A n c ∧ ReadsB w w.heap.size A xs := by
  have hl : xs.length = n := by have := h.1; simpa using this
  refine ⟨hl, ?_⟩
  rcases h.2 with ⟨rfl, h0⟩ | ⟨g, cap, cur, rfl, hge, hh, hnc, hcm, hcs, htk⟩
  · subst h0
    exact ⟨none, 0, rfl, fun j hj => by omega⟩
  · refine ⟨some ⟨g, 0, none⟩, cap, rfl, fun j hj => ⟨_, rfl, lt_of_block hh, ?_⟩⟩
    have hadd : (⟨g, 0, none⟩ : Addr).add j = ⟨g, j, none⟩ := by
      unfold Addr.add
      split <;> simp_all
    rw [hadd]
    have e : cur.toList[j]? = some (Value.bool xs[j]) := by
      have h1 : (cur.toList.take (n * 1))[j]? = (xs.map Value.bool)[j]? := by rw [htk]
      rw [List.getElem?_take, if_pos (by omega)] at h1
      rw [h1]; simp [hj]
    have e2 : cur[j]? = some (Value.bool xs[j]) := by simpa using e
    simp [World.cell?, hh, e2]
theorem reads_new (w : World) (xs : List Bool) (i : Nat) (hi : i = w.heap.size) : ReadsB (w.alloc (.cells (xs.map Value.bool).toArray 4)) (w.heap.size + 1) (some ⟨i, 0, none⟩) xs := by
  subst hi
  intro j hj
  refine ⟨_, rfl, by simp, ?_⟩
  have hadd : (⟨w.heap.size, 0, none⟩ : Addr).add j = ⟨w.heap.size, j, none⟩ := by
    unfold Addr.add
    split <;> simp_all
  rw [hadd]
  simp [hj]
theorem new13_is (n m n' m' r : Int) (h1 : Plain.newN n m = n') (h2 : Plain.newM n m = m') (h3 : Plain.newE n m = r) (w : World) : Calls Try.prog 13 #[.int .i64 n, .int .i64 m] w fun e w' => e = .returned (.tuple #[.agg #[.int .i64 n', .int .i64 m', .int .i64 0, .int .i64 0, .bool false], .int .i64 r]) ∧ Below w.heap.size w w' := by
  rw [← h1, ← h2, ← h3]; exact new13_any n m w

theorem run10_is (n m u d : Int) (b : Bool) (A : Option Addr) (k cap : Nat) (cs : List Bool) (u' d' : Int) (b' : Bool) (L : List Bool) (w : World) (hl : cs.length = k) (hk : k ≤ 10000) (hv : Plain.chk n m u d b = 0)
    (hS : Plain.runS n m (u, d, b) cs = (u', d', b')) (hL : Plain.runL n m (u, d, b) cs = L) (hr : ReadsB w w.heap.size A cs) :
    Calls Try.prog 10 #[.agg #[.int .i64 n, .int .i64 m, .int .i64 u, .int .i64 d, .bool b], .slice A k cap] w fun e w' => ∃ A' c', e = .returned (.tuple #[.agg #[.int .i64 n, .int .i64 m, .int .i64 u', .int .i64 d', .bool b'], .slice A' k c', .int .i64 0]) ∧
      ReadsB w' w'.heap.size A' L ∧ L.length = k ∧ Below w.heap.size w w' := by
  subst hl
  refine (run10_ok n m u d b A cap cs w hk hv hr).mono ?_
  rintro e w' ⟨v', rfl, ho, hb⟩
  rw [hS, hL] at *
  obtain ⟨h1, A', c', rfl, h2⟩ := own_reads ho
  exact ⟨A', c', rfl, h2, h1, hb⟩
theorem run11_is (n m u d : Int) (b : Bool) (A : Option Addr) (k cap : Nat) (cs : List Bool) (u' d' : Int) (b' : Bool) (L : List Bool) (w : World) (hl : cs.length = k) (hk : k ≤ 10000) (hv : Plain.chk n m u d b = 0)
    (hS : Plain.runS n m (u, d, b) cs = (u', d', b')) (hL : Plain.runL n m (u, d, b) cs = L) (hr : ReadsB w w.heap.size A cs) :
    Calls Try.prog 11 #[.agg #[.int .i64 n, .int .i64 m, .int .i64 u, .int .i64 d, .bool b], .slice A k cap] w fun e w' => ∃ A' c', e = .returned (.tuple #[.agg #[.int .i64 n, .int .i64 m, .int .i64 u', .int .i64 d', .bool b'], .slice A' k c', .int .i64 0]) ∧
      ReadsB w' w'.heap.size A' L ∧ L.length = k ∧ Below w.heap.size w w' := by
  subst hl
  refine (run11_ok n m u d b A cap cs w hk hv hr).mono ?_
  rintro e w' ⟨v', rfl, ho, hb⟩
  rw [hS, hL] at *
  obtain ⟨h1, A', c', rfl, h2⟩ := own_reads ho
  exact ⟨A', c', rfl, h2, h1, hb⟩
theorem same_is (A A' : Option Addr) (k c c' : Nat) (xs : List Bool) (w : World) (hl : xs.length = k) (h : ReadsB w w.heap.size A xs) (h' : ReadsB w w.heap.size A' xs) (hk : k ≤ 1000000) :
    Calls Try.prog 12 #[.slice A k c, .slice A' k c'] w fun e w' => e = .returned (.bool true) ∧ Below w.heap.size w w' := by
  subst hl; exact same_yes A A' c c' xs w h h' hk

set_option maxHeartbeats 2000000 in
theorem awake_any (w : World) : Calls Try.prog 9 #[] w fun e w' => e = .returned (.bool true) ∧ Below w.heap.size w w' := by
  have H1 := Lib.hid (fun w => new13_is 2 3 2 3 0 (by decide) (by decide) (by decide) w)
  have H2 := Lib.hid (fun (A : Option Addr) (w : World) (hr : ReadsB w w.heap.size A [true, true, false, false, true, false, false, false, true]) => run10_is 2 3 0 0 false A 9 9 [true, true, false, false, true, false, false, false, true] 1 0 false [false, true, true, true, true, true, true, false, false] w rfl (by decide) (by decide) (by decide) (by decide) hr)
  have H3 := Lib.hid (fun w => reach15_is 2 3 0 0 false 2 5 0 (by decide) (by decide) w)
  go_enter Try.func9, Try.ntmps9
  go_wp2_with fail
  refine (H1.out _).mono ?_
  rintro e w1 ⟨rfl, hb1⟩
  go_wp2_with fail
  refine (H2.out _ _ ?hr).mono ?_
  case hr => exact (reads_new (w1.alloc (.cells #[.int .i64 2, .int .i64 3, .int .i64 0, .int .i64 0, .bool false] 23)) [true, true, false, false, true, false, false, false, true] _ (by simp)).more (by simp)
  rintro e w2 ⟨A2, c2, rfl, hr2, hl2, hb2⟩
  have hlt : w1.heap.size < w2.heap.size := by have := hb2.size; simp at this; omega
  have hc0 := hb2.cell (p := ⟨w1.heap.size, 0, none⟩) (by simp; omega)
  have hc1 := hb2.cell (p := ⟨w1.heap.size, 1, none⟩) (by simp; omega)
  have hc2 := hb2.cell (p := ⟨w1.heap.size, 2, none⟩) (by simp; omega)
  have hc3 := hb2.cell (p := ⟨w1.heap.size, 3, none⟩) (by simp; omega)
  have hc4 := hb2.cell (p := ⟨w1.heap.size, 4, none⟩) (by simp; omega)
  have HR2 := Lib.hid hr2; clear hr2
  have HL2 := Lib.hid hl2; clear hl2
  go_wp2_with fail
  refine (H3.out _).mono ?_
  rintro e w3 ⟨rfl, hb3⟩
  go_wp2_with fail
  refine (same_is _ _ 9 _ _ [false, true, true, true, true, true, true, false, false] _ rfl ?ha ?hb (by decide)).mono ?_
  case ha => exact ((((HR2.out.more (Nat.le_refl _)).below (below1 w2 _)).below (hb3.mono (by simp))).below ((below1 w3 _).mono (by have := hb3.size; simp at this; omega))).more (by have := hb3.size; simp at this ⊢; omega)
  case hb => exact (reads_new w3 [false, true, true, true, true, true, true, false, false] _ (by simp)).more (by simp)
  rintro e w4 ⟨rfl, hb4⟩
  go_wp2_with fail
  go_ret
  have k1 : Below w.heap.size w w2 := (hb1.alloc hb1.size _).alloc (by have := hb1.size; simp; omega) _ |>.trans (hb2.mono (by have := hb1.size; simp; omega))
  have k3 : Below w.heap.size w w3 := (k1.alloc k1.size _).trans (hb3.mono (by have := k1.size; simp; omega))
  exact ⟨rfl, (k3.alloc k3.size _).trans (hb4.mono (by have := k3.size; simp; omega))⟩
end Go.Proofs.Ytffchacanekhgaa
