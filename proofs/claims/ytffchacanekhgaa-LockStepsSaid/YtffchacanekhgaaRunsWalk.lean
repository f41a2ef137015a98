/-
  WALK: LockRuns returns true.
-/
import Derived.Test.YtffchacanekhgaaAwake
import Derived.Laws.MakeOwn
namespace Go.Proofs.Ytffchacanekhgaa
open Go.RowKit

theorem eq23_self (n m u d : Int) (b : Bool) (w : World) : (Op.equalIn 10000 23 (.agg #[.int .i64 n, .int .i64 m, .int .i64 u, .int .i64 d, .bool b]) (.agg #[.int .i64 n, .int .i64 m, .int .i64 u, .int .i64 d, .bool b])).run Try.prog w = .ok true w := by
  rw [eq23]; simp

set_option maxHeartbeats 2000000 in
theorem lockRuns_long (n m u d : Int) (b : Bool) (A : Option Addr) (k c : Nat) (many : Bool) (w : World) (hk : 300 < k) :
    Calls Try.prog 3 #[.agg #[.int .i64 n, .int .i64 m, .int .i64 u, .int .i64 d, .bool b], .slice A k c, .bool many] w fun e w' => e = .returned (.bool true) ∧ Below w.heap.size w w' := by
  go_enter Try.func3, Try.ntmps3
  go_wp2_with (go_at_call 9; refine (awake_any _).mono ?_; rintro e w1 ⟨rfl, hb1⟩)
  go_ret
  exact ⟨rfl, (below1 w _).trans (hb1.mono (by simp))⟩

set_option maxHeartbeats 2000000 in
theorem lockRuns_ok (n m u d : Int) (b : Bool) (A : Option Addr) (k c : Nat) (cs : List Bool) (w : World) (hk : k ≤ 300) (hl : cs.length = k) (hr : ReadsB w w.heap.size A cs) (hv : Plain.chk n m u d b = 0) :
    Calls Try.prog 3 #[.agg #[.int .i64 n, .int .i64 m, .int .i64 u, .int .i64 d, .bool b], .slice A k c, .bool false] w fun e w' => e = .returned (.bool true) ∧ Below w.heap.size w w' := by
  obtain ⟨⟨u', d', b'⟩, hS⟩ : ∃ S : Plain.St, Plain.runS n m (u, d, b) cs = S := ⟨_, rfl⟩
  obtain ⟨L, hL⟩ : ∃ L, Plain.runL n m (u, d, b) cs = L := ⟨_, rfl⟩
  have H1 := Lib.hid (fun W h => run10_is n m u d b A k c cs u' d' b' L W hl (by omega) hv hS hL h)
  have H2 := Lib.hid (fun W h => run11_is n m u d b A k c cs u' d' b' L W hl (by omega) hv hS hL h)
  have heq := eq23_self n m u' d' b'
  clear hS hL hl hv
  have HR := Lib.hid hr; clear hr
  go_enter Try.func3, Try.ntmps3
  go_wp2_with fail
  refine (H1.out _ ?ha).mono ?_
  case ha => exact (HR.out.below (below1 w _)).more (by simp)
  rintro e w1 ⟨A1, c1, rfl, hr1, hl1, hb1⟩
  have HR1 := Lib.hid hr1; clear hr1
  have HL1 := Lib.hid hl1; clear hl1
  have k1 : Below w.heap.size w w1 := (below1 w _).trans (hb1.mono (by simp))
  have hlt : w.heap.size < w1.heap.size := by have := hb1.size; simp at this; omega
  have hc0 := hb1.cell (p := ⟨w.heap.size, 0, none⟩) (by simp)
  have hc1 := hb1.cell (p := ⟨w.heap.size, 1, none⟩) (by simp)
  have hc2 := hb1.cell (p := ⟨w.heap.size, 2, none⟩) (by simp)
  have hc3 := hb1.cell (p := ⟨w.heap.size, 3, none⟩) (by simp)
  have hc4 := hb1.cell (p := ⟨w.heap.size, 4, none⟩) (by simp)
  go_wp2_with fail
  refine (H2.out _ ?hb).mono ?_
  case hb => exact (HR.out.below (k1.alloc k1.size _)).more (by have := k1.size; simp; omega)
  rintro e w2 ⟨A2, c2, rfl, hr2, hl2, hb2⟩
  have HR2 := Lib.hid hr2; clear hr2
  have HL2 := Lib.hid hl2; clear hl2
  have hlt2 : w1.heap.size < w2.heap.size := by have := hb2.size; simp at this; omega
  have k2 : Below w1.heap.size w1 w2 := (below1 w1 _).trans (hb2.mono (by simp))
  have hd0 := hb2.cell (p := ⟨w1.heap.size, 0, none⟩) (by simp)
  have hd1 := hb2.cell (p := ⟨w1.heap.size, 1, none⟩) (by simp)
  have hd2 := hb2.cell (p := ⟨w1.heap.size, 2, none⟩) (by simp)
  have hd3 := hb2.cell (p := ⟨w1.heap.size, 3, none⟩) (by simp)
  have hd4 := hb2.cell (p := ⟨w1.heap.size, 4, none⟩) (by simp)
  clear hc0 hc1 hc2 hc3 hc4
  go_wp2_with fail
  refine (same_is _ _ k _ _ L _ HL1.out ?hc ?hd (by omega)).mono ?_
  case hc => exact ((HR1.out.below k2).below ((below1 w2 _).mono (by omega))).more (by simp; omega)
  case hd => exact (HR2.out.below (below1 w2 _)).more (by simp)
  rintro e w3 ⟨rfl, hb3⟩
  have k3 : Below w.heap.size w w3 := (((k1.trans (k2.mono k1.size)).alloc (by have := k1.size; omega) _)).trans (hb3.mono (by have := k1.size; simp; omega))
  go_wp2_with (go_at_call 9; refine (awake_any _).mono ?_; rintro e w4 ⟨rfl, hb4⟩)
  go_ret
  exact ⟨rfl, k3.trans (hb4.mono k3.size)⟩

theorem reads_nil (w : World) (A : Option Addr) (B : Nat) : ReadsB w B A [] := fun j hj => absurd hj (by simp)
theorem made_bools : ∃ M : Array Value, ∀ W : World, (Instr.makeSlice 24 (.int .i64 10001) (.int .i64 10001)).run Try.prog W = .ok (.slice (some ⟨W.heap.size, 0, none⟩) 10001 10001) (W.alloc (.cells M 4)) := by
  obtain ⟨i0, hi, hz0, hz1, hz2⟩ := info_parts info4
  exact ⟨_, fun W => run_make W 24 4 i0 (.bool false) Try.underlying24 hi hz0 .i64 .i64 10001 10001 (by decide) (by decide) (by rw [hz2]; decide) (by decide)⟩
theorem run10_m (n m u d : Int) (b : Bool) (A : Option Addr) (cap : Nat) (r : Int) (w : World) (hr : (if Plain.chk n m u d b = 0 then 4 else Plain.chk n m u d b) = r) :
    Calls Try.prog 10 #[.agg #[.int .i64 n, .int .i64 m, .int .i64 u, .int .i64 d, .bool b], .slice A 10001 cap] w fun e w' => e = .returned (.tuple #[.agg #[.int .i64 0, .int .i64 0, .int .i64 0, .int .i64 0, .bool false], .slice none 0 0, .int .i64 r]) ∧ Below w.heap.size w w' := by
  by_cases h : Plain.chk n m u d b = 0
  · rw [if_pos h] at hr
    subst hr
    exact run10_l n m u d b A 10001 cap w h (by decide)
  · rw [if_neg h] at hr
    exact run10_e n m u d b A 10001 cap r w hr (by subst hr; simpa using h)
theorem run11_m (n m u d : Int) (b : Bool) (A : Option Addr) (cap : Nat) (r : Int) (w : World) (hr : (if Plain.chk n m u d b = 0 then 4 else Plain.chk n m u d b) = r) :
    Calls Try.prog 11 #[.agg #[.int .i64 n, .int .i64 m, .int .i64 u, .int .i64 d, .bool b], .slice A 10001 cap] w fun e w' => e = .returned (.tuple #[.agg #[.int .i64 0, .int .i64 0, .int .i64 0, .int .i64 0, .bool false], .slice none 0 0, .int .i64 r]) ∧ Below w.heap.size w w' := by
  by_cases h : Plain.chk n m u d b = 0
  · rw [if_pos h] at hr
    subst hr
    exact run11_l n m u d b A 10001 cap w h (by decide)
  · rw [if_neg h] at hr
    exact run11_e n m u d b A 10001 cap r w hr (by subst hr; simpa using h)

set_option maxHeartbeats 2000000 in
theorem lockRuns_e (n m u d : Int) (b : Bool) (A : Option Addr) (k c : Nat) (w : World) (hk : k ≤ 300) (r : Int) (hr : Plain.chk n m u d b = r) (hne : (r != 0) = true) :
    Calls Try.prog 3 #[.agg #[.int .i64 n, .int .i64 m, .int .i64 u, .int .i64 d, .bool b], .slice A k c, .bool false] w fun e w' => e = .returned (.bool true) ∧ Below w.heap.size w w' := by
  have H1 := Lib.hid (fun (A : Option Addr) (c : Nat) W => run10_e n m u d b A k c r W hr hne)
  have H2 := Lib.hid (fun (A : Option Addr) (c : Nat) W => run11_e n m u d b A k c r W hr hne)
  have heq := eq23_self 0 0 0 0 false
  clear hr hne
  go_enter Try.func3, Try.ntmps3
  go_wp2_with fail
  refine (H1.out _ _ _).mono ?_
  rintro e w1 ⟨rfl, hb1⟩
  have k1 : Below w.heap.size w w1 := (below1 w _).trans (hb1.mono (by simp))
  have hlt : w.heap.size < w1.heap.size := by have := hb1.size; simp at this; omega
  have hc0 := hb1.cell (p := ⟨w.heap.size, 0, none⟩) (by simp)
  have hc1 := hb1.cell (p := ⟨w.heap.size, 1, none⟩) (by simp)
  have hc2 := hb1.cell (p := ⟨w.heap.size, 2, none⟩) (by simp)
  have hc3 := hb1.cell (p := ⟨w.heap.size, 3, none⟩) (by simp)
  have hc4 := hb1.cell (p := ⟨w.heap.size, 4, none⟩) (by simp)
  go_wp2_with fail
  refine (H2.out _ _ _).mono ?_
  rintro e w2 ⟨rfl, hb2⟩
  have hlt2 : w1.heap.size < w2.heap.size := by have := hb2.size; simp at this; omega
  have k2 : Below w1.heap.size w1 w2 := (below1 w1 _).trans (hb2.mono (by simp))
  have hd0 := hb2.cell (p := ⟨w1.heap.size, 0, none⟩) (by simp)
  have hd1 := hb2.cell (p := ⟨w1.heap.size, 1, none⟩) (by simp)
  have hd2 := hb2.cell (p := ⟨w1.heap.size, 2, none⟩) (by simp)
  have hd3 := hb2.cell (p := ⟨w1.heap.size, 3, none⟩) (by simp)
  have hd4 := hb2.cell (p := ⟨w1.heap.size, 4, none⟩) (by simp)
  clear hc0 hc1 hc2 hc3 hc4
  go_wp2_with fail
  refine (same_is _ _ 0 _ _ [] _ rfl (reads_nil _ _ _) (reads_nil _ _ _) (by decide)).mono ?_
  rintro e w3 ⟨rfl, hb3⟩
  have k3 : Below w.heap.size w w3 := (((k1.trans (k2.mono k1.size)).alloc (by have := k1.size; omega) _)).trans (hb3.mono (by have := k1.size; simp; omega))
  go_wp2_with (go_at_call 9; refine (awake_any _).mono ?_; rintro e w4 ⟨rfl, hb4⟩)
  go_ret
  exact ⟨rfl, k3.trans (hb4.mono k3.size)⟩

set_option maxHeartbeats 2000000 in
theorem lockRuns_m (n m u d : Int) (b : Bool) (A : Option Addr) (k c : Nat) (w : World) (hk : k ≤ 300)  :
    Calls Try.prog 3 #[.agg #[.int .i64 n, .int .i64 m, .int .i64 u, .int .i64 d, .bool b], .slice A k c, .bool true] w fun e w' => e = .returned (.bool true) ∧ Below w.heap.size w w' := by
  obtain ⟨M, hM⟩ := made_bools
  obtain ⟨r, hr⟩ : ∃ r, (if Plain.chk n m u d b = 0 then 4 else Plain.chk n m u d b) = r := ⟨_, rfl⟩
  have H1 := Lib.hid (fun (A : Option Addr) (c : Nat) W => run10_m n m u d b A c r W hr)
  have H2 := Lib.hid (fun (A : Option Addr) (c : Nat) W => run11_m n m u d b A c r W hr)
  have heq := eq23_self 0 0 0 0 false
  clear hr
  go_enter Try.func3, Try.ntmps3
  go_wp2_with fail
  refine (H1.out _ _ _).mono ?_
  rintro e w1 ⟨rfl, hb1⟩
  have k1 : Below w.heap.size w w1 := (below2 w _ _).trans (hb1.mono (by simp; omega))
  have hlt : w.heap.size < w1.heap.size := by have := hb1.size; simp at this; omega
  have hc0 := hb1.cell (p := ⟨w.heap.size, 0, none⟩) (by simp; omega)
  have hc1 := hb1.cell (p := ⟨w.heap.size, 1, none⟩) (by simp; omega)
  have hc2 := hb1.cell (p := ⟨w.heap.size, 2, none⟩) (by simp; omega)
  have hc3 := hb1.cell (p := ⟨w.heap.size, 3, none⟩) (by simp; omega)
  have hc4 := hb1.cell (p := ⟨w.heap.size, 4, none⟩) (by simp; omega)
  go_wp2_with fail
  refine (H2.out _ _ _).mono ?_
  rintro e w2 ⟨rfl, hb2⟩
  have hlt2 : w1.heap.size < w2.heap.size := by have := hb2.size; simp at this; omega
  have k2 : Below w1.heap.size w1 w2 := (below1 w1 _).trans (hb2.mono (by simp))
  have hd0 := hb2.cell (p := ⟨w1.heap.size, 0, none⟩) (by simp)
  have hd1 := hb2.cell (p := ⟨w1.heap.size, 1, none⟩) (by simp)
  have hd2 := hb2.cell (p := ⟨w1.heap.size, 2, none⟩) (by simp)
  have hd3 := hb2.cell (p := ⟨w1.heap.size, 3, none⟩) (by simp)
  have hd4 := hb2.cell (p := ⟨w1.heap.size, 4, none⟩) (by simp)
  clear hc0 hc1 hc2 hc3 hc4
  go_wp2_with fail
  refine (same_is _ _ 0 _ _ [] _ rfl (reads_nil _ _ _) (reads_nil _ _ _) (by decide)).mono ?_
  rintro e w3 ⟨rfl, hb3⟩
  have k3 : Below w.heap.size w w3 := (((k1.trans (k2.mono k1.size)).alloc (by have := k1.size; omega) _)).trans (hb3.mono (by have := k1.size; simp; omega))
  go_wp2_with (go_at_call 9; refine (awake_any _).mono ?_; rintro e w4 ⟨rfl, hb4⟩)
  go_ret
  exact ⟨rfl, k3.trans (hb4.mono k3.size)⟩

theorem lockRuns_walk (n m u d : Int) (b : Bool) (A : Option Addr) (k c : Nat) (many : Bool) (w : World) (cs : List Bool) (hl : cs.length = k) (hr : ReadsB w w.heap.size A cs) :
    Calls Try.prog 3 #[.agg #[.int .i64 n, .int .i64 m, .int .i64 u, .int .i64 d, .bool b], .slice A k c, .bool many] w fun e w' => e = .returned (.bool true) ∧ Below w.heap.size w w' := by
  by_cases hk : 300 < k
  · exact lockRuns_long n m u d b A k c many w hk
  · cases many
    · by_cases hv : Plain.chk n m u d b = 0
      · exact lockRuns_ok n m u d b A k c cs w (by omega) hl hr hv
      · exact lockRuns_e n m u d b A k c w (by omega) _ rfl (by simpa using hv)
    · exact lockRuns_m n m u d b A k c w (by omega)
end Go.Proofs.Ytffchacanekhgaa
