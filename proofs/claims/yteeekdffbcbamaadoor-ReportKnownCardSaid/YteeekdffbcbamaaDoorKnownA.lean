/-
  WALKS: what ReportKnown asks: the faults of lines; what Split hands over, read.
-/
import Derived.Test.YteeekdffbcbamaaDoorSplitW
import Derived.Test.YteeekdffbcbamaaDoorSameL
import Derived.Test.YteeekdffbcbamaaDoorG7
namespace Go.Proofs.YteeekdffbcbamaaDoor
open Go.RowKit

theorem rowCells_get : ∀ (es : List (Plain.Sn × Value)) (j : Nat) (h : j < es.length) (k : Nat), k < 14 → (rowCells es)[j * 14 + k]? = (snCells es[j].1 es[j].2)[k]?
  | [], j, h, _, _ => absurd h (by simp)
  | e :: r, 0, _, k, hk => by
    show ((snCells e.1 e.2).toList ++ rowCells r)[0 * 14 + k]? = _
    rw [List.getElem?_append_left (by show 0 * 14 + k < 14; omega), Nat.zero_mul, Nat.zero_add]
    simp
  | e :: r, j + 1, h, k, hk => by
    have ih := rowCells_get r j (by simpa using h) k hk
    show ((snCells e.1 e.2).toList ++ rowCells r)[(j + 1) * 14 + k]? = _
    have hl : (snCells e.1 e.2).toList.length = 14 := rfl
    rw [List.getElem?_append_right (by rw [hl]; omega), hl, show (j + 1) * 14 + k - 14 = j * 14 + k by omega, ih]
    rfl
theorem SnR.reads {B : Nat} {W : World} {v2 v3 : Value} {es : List (Plain.Sn × Value)} {bad : List Int} (h : SnR B W v2 v3 es bad) : ∃ A c, v2 = .slice A es.length c ∧ SnAt W A es := by
  rcases h.1.2 with ⟨rfl, h0⟩ | ⟨g, cap, cur, rfl, hg, hh, hr⟩
  · exact ⟨none, 0, by rw [h0], fun j hj => absurd hj (by omega)⟩
  · refine ⟨_, _, rfl, fun j hj => ⟨g, 0, rfl, ?_, fun k u hu => ?_⟩⟩
    · have h3 := (h.2.2 _ (List.getElem_mem hj)).1
      obtain ⟨Aj, cj, e⟩ := own_formQ h3
      refine ⟨Aj, cj, e, ?_⟩
      rw [e] at h3
      exact own_PrL (own_less h3 (Nat.zero_le _))
    · have hk : k < 14 := by
        have := (Array.getElem?_eq_some_iff.1 hu).1
        exact this
      have h1 : (rowCells es)[j * 14 + k]? = some u := (rowCells_get es j hj k hk).trans hu
      have h2 := h.1.cells (g := g) rfl (j * 14 + k) u h1
      have e : (⟨g, 0, none⟩ : Addr).add (j * 14 + k) = ⟨g, 0 + j * 14 + k, none⟩ := by
        have e2 : (⟨g, 0, none⟩ : Addr).add (j * 14 + k) = ⟨g, j * 14 + k, none⟩ := by
          generalize j * 14 + k = q
          simp [Addr.add]
          exact Eq.symm
        rw [e2, Nat.zero_add]
      rw [← e]
      exact h2
set_option maxHeartbeats 1000000 in
theorem faults_any (s : ByteArray) (e a : Int) (w : World) (he : Env w) (hs : s.size ≤ 1000000) (hp : Plain.parse s = (Plain.zeroSn, e, a)) :
    Calls Tryd.prog 6 #[.string s, .int .i64 e, .int .i64 a] w fun en w' => en = .returned (.bool true) ∧ Below w.heap.size w w' := by
  obtain ⟨te, pe, hV⟩ := he.2.2
  have h := parse_any s w hs te pe hV (by have := he.1; omega)
  rw [hp] at h
  have HP := Lib.hid h
  clear h hp hV he
  go_enter Tryd.func6, Tryd.ntmps6
  go_wp2_with fail
  refine HP.out.mono ?_
  rintro en w1 ⟨v1, rfl, ho1, hb1⟩
  obtain ⟨A1, c1, rfl⟩ := own_formQ ho1
  have HB1 := Lib.hid hb1
  clear ho1 hb1 HP
  unfold snCells Plain.zeroSn
  go_upto_region 2 with (fail)
  obtain ⟨w2, hw2⟩ : ∃ w2, (w1.alloc (.cells #[.int .i64 0, .int .i64 0, .bool false, .int .i64 0, .int .i64 0, .int .i64 0, .int .i64 0, .int .i64 0, .int .i64 0, .slice A1 0 c1, .int .i64 0, .int .i64 0, .int .i64 0, .string ⟨#[]⟩] 31)).alloc (.cells #[.int .i64 e, .int .i64 a] 41) = w2 := ⟨_, rfl⟩
  have x0 := (show Blk w2 w1.heap.size 31 #[.int .i64 0, .int .i64 0, .bool false, .int .i64 0, .int .i64 0, .int .i64 0, .int .i64 0, .int .i64 0, .int .i64 0, .slice A1 0 c1, .int .i64 0, .int .i64 0, .int .i64 0, .string ⟨#[]⟩] from hw2 ▸ (Blk.new_at rfl).alloc _).cell 0
  have f0 := (show Blk w2 (w1.heap.size + 1) 41 #[.int .i64 e, .int .i64 a] from hw2 ▸ Blk.new_at (by simp)).cell 0
  have f1 := (show Blk w2 (w1.heap.size + 1) 41 #[.int .i64 e, .int .i64 a] from hw2 ▸ Blk.new_at (by simp)).cell 1
  have HB2 := Lib.hid (show Below w.heap.size w w2 from hw2 ▸ ((HB1.out.alloc HB1.out.size _).alloc (by have := HB1.out.size; simp; omega) _))
  have eF := eqFault_refl e a
  rw [hw2]
  clear hw2
  go_wp2_with fail
  go_ret
  exact ⟨rfl, HB2.out⟩
end Go.Proofs.YteeekdffbcbamaaDoor
