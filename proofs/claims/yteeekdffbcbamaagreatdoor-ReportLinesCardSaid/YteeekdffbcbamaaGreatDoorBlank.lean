/-
  WALKS: which fields a sentence has beside those of its kind (package report): within, one, blank.
-/
import Derived.Test.YteeekdffbcbamaaGreatDoorG5
import Derived.Test.YteeekdffbcbamaaGreatDoorG4
import Derived.ChangeKeysEq
namespace Go.Proofs.YteeekdffbcbamaaGreatDoor
open Go.RowKit

def same3 (a0 a1 a2 b0 b1 b2 : Int) : Bool := (a0 == b0) && ((a1 == b1) && (a2 == b2))
theorem und3 : Tryz.prog.underlying 26 = some (.array 3 3) := by kernel_rfl
theorem cells3 : Tryz.prog.cellsOf 3 = 1 := by kernel_rfl
theorem info3' : ∃ i, Tryz.prog.info? 3 = some i := by
  have := info3
  cases h : Tryz.prog.info? 3 with
  | none => rw [h] at this; cases this
  | some i => exact ⟨i, rfl⟩
theorem eq3 (a0 a1 a2 b0 b1 b2 : Int) (w : World) : (Op.equalIn 10000 26 (.agg #[.int .i64 a0, .int .i64 a1, .int .i64 a2]) (.agg #[.int .i64 b0, .int .i64 b1, .int .i64 b2])).run Tryz.prog w = .ok (same3 a0 a1 a2 b0 b1 b2) w := by
  obtain ⟨i, hi⟩ := info3'
  rw [run_equalIn_array w 9999 _ _ und3 hi, cells3]
  show (Op.eqItems 9999 3 1 _ _ [0, 1, 2]).run Tryz.prog w = _
  have hp0 : ∀ x y z : Int, ∀ W, (part 3 #[.int .i64 x, .int .i64 y, .int .i64 z] (0 * 1)).run Tryz.prog W = .ok (.int .i64 x) W := fun x y z W => by kernel_rfl
  have hp1 : ∀ x y z : Int, ∀ W, (part 3 #[.int .i64 x, .int .i64 y, .int .i64 z] (1 * 1)).run Tryz.prog W = .ok (.int .i64 y) W := fun x y z W => by kernel_rfl
  have hp2 : ∀ x y z : Int, ∀ W, (part 3 #[.int .i64 x, .int .i64 y, .int .i64 z] (2 * 1)).run Tryz.prog W = .ok (.int .i64 z) W := fun x y z W => by kernel_rfl
  simp only [Op.eqItems, Sem.run_bind, Sem.run_ite, Sem.run_pure, hp0, hp1, hp2, Result.andThen_ok, run_equalIn_int _ _ _ _ _ _ _ Tryz.underlying3]
  unfold same3
  cases (a0 == b0) <;> cases (a1 == b1) <;> cases (a2 == b2) <;> simp
theorem eq3_is {a0 a1 a2 b0 b1 b2 : Int} {r : Bool} (h : same3 a0 a1 a2 b0 b1 b2 = r) (w : World) : (Op.equalIn 10000 26 (.agg #[.int .i64 a0, .int .i64 a1, .int .i64 a2]) (.agg #[.int .i64 b0, .int .i64 b1, .int .i64 b2])).run Tryz.prog w = .ok r w := by
  rw [eq3, h]
theorem same3_refl (a b c : Int) : same3 a b c a b c = true := by simp [same3]
theorem same3_0 {a b c x y z : Int} (h : (a == x) = false) : same3 a b c x y z = false := by simp [same3, h]
theorem same3_1 {a b c x y z : Int} (h : (b == y) = false) : same3 a b c x y z = false := by simp [same3, h]
theorem same3_2 {a b c x y z : Int} (h : (c == z) = false) : same3 a b c x y z = false := by simp [same3, h]
theorem within_yes (n lo hi : Int) (w : World) (h : lo ≤ n ∧ n ≤ hi) : Calls Tryz.prog 43 #[.int .i64 n, .int .i64 lo, .int .i64 hi] w fun e w' => e = .returned (.bool true) ∧ w = w' := by
  obtain ⟨h1, h2⟩ := h
  go_enter Tryz.func43, Tryz.ntmps43
  go_wp2_with fail
  go_ret
  exact ⟨rfl, rfl⟩
theorem within_no (n lo hi : Int) (w : World) (h : n < lo ∨ hi < n) : Calls Tryz.prog 43 #[.int .i64 n, .int .i64 lo, .int .i64 hi] w fun e w' => e = .returned (.bool false) ∧ w = w' := by
  by_cases h1 : n < lo
  · clear h
    go_enter Tryz.func43, Tryz.ntmps43
    go_wp2_with fail
    go_ret
    exact ⟨rfl, rfl⟩
  · have h1' : lo ≤ n := by omega
    have hd : decide (n ≤ hi) = false := decide_eq_false (by omega)
    clear h h1
    go_enter Tryz.func43, Tryz.ntmps43
    go_wp2_with fail
    go_ret
    exact ⟨rfl, rfl⟩
theorem within_any (n lo hi : Int) (r : Bool) (w : World) (h : Plain.inR n lo hi = r) : Calls Tryz.prog 43 #[.int .i64 n, .int .i64 lo, .int .i64 hi] w fun e w' => e = .returned (.bool r) ∧ w = w' := by
  cases r
  · exact within_no n lo hi w (Plain.inR_no h)
  · exact within_yes n lo hi w (Plain.inR_yes h)
def oneI (b : Bool) : Int := if b then 1 else 0
theorem one_any (b : Bool) (w : World) : Calls Tryz.prog 61 #[.bool b] w fun e w' => e = .returned (.int .i64 (oneI b)) ∧ w = w' := by
  cases b
  · go_enter Tryz.func61, Tryz.ntmps61
    go_wp2_with fail
    go_ret
    exact ⟨rfl, rfl⟩
  · go_enter Tryz.func61, Tryz.ntmps61
    go_wp2_with fail
    go_ret
    exact ⟨rfl, rfl⟩
set_option maxHeartbeats 1000000 in
theorem blank_1 (t : Int) (ok : Bool) (p0 p1 p2 l0 l1 l2 : Int) (A : Option Addr) (n c : Nat) (m g u : Int) (T : ByteArray) (w : World) : Calls Tryz.prog 63 #[.agg #[.int .i64 1, .int .i64 t, .bool ok, .int .i64 p0, .int .i64 p1, .int .i64 p2, .int .i64 l0, .int .i64 l1, .int .i64 l2, .slice A n c, .int .i64 m, .int .i64 g, .int .i64 u, .string T]] w fun en w' => en = .returned (.agg #[.int .i64 1, .int .i64 t, .bool ok, .int .i64 p0, .int .i64 p1, .int .i64 p2, .int .i64 l0, .int .i64 l1, .int .i64 l2, .slice A n c, .int .i64 0, .int .i64 0, .int .i64 0, .string ⟨#[]⟩]) ∧ Below w.heap.size w w' := by
  go_enter Tryz.func63, Tryz.ntmps63
  go_wp2_with fail
  go_region
  all_goals
    go_wp2_with fail
    exact bodyPost_ret (v := .agg #[.int .i64 1, .int .i64 t, .bool ok, .int .i64 p0, .int .i64 p1, .int .i64 p2, .int .i64 l0, .int .i64 l1, .int .i64 l2, .slice A n c, .int .i64 0, .int .i64 0, .int .i64 0, .string ⟨#[]⟩]) (by simp [results, Tryz.results63, go_sem]) rfl ⟨rfl, ((((Below.refl _ _).alloc (Nat.le_refl _) _).alloc (by simp) _).alloc (by simp; omega) _).drew⟩
set_option maxHeartbeats 1000000 in
theorem blank_2 (t : Int) (ok : Bool) (p0 p1 p2 l0 l1 l2 : Int) (A : Option Addr) (n c : Nat) (m g u : Int) (T : ByteArray) (w : World) : Calls Tryz.prog 63 #[.agg #[.int .i64 2, .int .i64 t, .bool ok, .int .i64 p0, .int .i64 p1, .int .i64 p2, .int .i64 l0, .int .i64 l1, .int .i64 l2, .slice A n c, .int .i64 m, .int .i64 g, .int .i64 u, .string T]] w fun en w' => en = .returned (.agg #[.int .i64 2, .int .i64 t, .bool ok, .int .i64 0, .int .i64 0, .int .i64 0, .int .i64 0, .int .i64 0, .int .i64 0, .slice none 0 0, .int .i64 m, .int .i64 g, .int .i64 u, .string ⟨#[]⟩]) ∧ Below w.heap.size w w' := by
  go_enter Tryz.func63, Tryz.ntmps63
  go_wp2_with fail
  go_region
  all_goals
    go_wp2_with fail
    exact bodyPost_ret (v := .agg #[.int .i64 2, .int .i64 t, .bool ok, .int .i64 0, .int .i64 0, .int .i64 0, .int .i64 0, .int .i64 0, .int .i64 0, .slice none 0 0, .int .i64 m, .int .i64 g, .int .i64 u, .string ⟨#[]⟩]) (by simp [results, Tryz.results63, go_sem]) rfl ⟨rfl, ((((Below.refl _ _).alloc (Nat.le_refl _) _).alloc (by simp) _).alloc (by simp; omega) _).drew⟩
set_option maxHeartbeats 1000000 in
theorem blank_3 (t : Int) (ok : Bool) (p0 p1 p2 l0 l1 l2 : Int) (A : Option Addr) (n c : Nat) (m g u : Int) (T : ByteArray) (w : World) : Calls Tryz.prog 63 #[.agg #[.int .i64 3, .int .i64 t, .bool ok, .int .i64 p0, .int .i64 p1, .int .i64 p2, .int .i64 l0, .int .i64 l1, .int .i64 l2, .slice A n c, .int .i64 m, .int .i64 g, .int .i64 u, .string T]] w fun en w' => en = .returned (.agg #[.int .i64 3, .int .i64 t, .bool false, .int .i64 0, .int .i64 0, .int .i64 0, .int .i64 0, .int .i64 0, .int .i64 0, .slice none 0 0, .int .i64 0, .int .i64 0, .int .i64 0, .string T]) ∧ Below w.heap.size w w' := by
  go_enter Tryz.func63, Tryz.ntmps63
  go_wp2_with fail
  exact bodyPost_ret (v := .agg #[.int .i64 3, .int .i64 t, .bool false, .int .i64 0, .int .i64 0, .int .i64 0, .int .i64 0, .int .i64 0, .int .i64 0, .slice none 0 0, .int .i64 0, .int .i64 0, .int .i64 0, .string T]) (by simp [results, Tryz.results63, go_sem]) rfl ⟨rfl, ((((Below.refl _ _).alloc (Nat.le_refl _) _).alloc (by simp) _).alloc (by simp; omega) _)⟩
end Go.Proofs.YteeekdffbcbamaaGreatDoor
