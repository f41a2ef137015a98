/-
  WALKS: Step of both.
-/
import Derived.Test.YtffchacanekhgaaKnownWalk
namespace Go.Proofs.Ytffchacanekhgaa
open Go.RowKit

namespace Plain
/-- What Step returns: the error and the state. -/
def sN (n m u d : Int) (b : Bool) : Int := if chk n m u d b = 0 then n else 0
def sM (n m u d : Int) (b : Bool) : Int := if chk n m u d b = 0 then m else 0
def sU (n m u d : Int) (b c : Bool) : Int := if chk n m u d b = 0 then stU n u c else 0
def sD (n m u d : Int) (b c : Bool) : Int := if chk n m u d b = 0 then stD m d c else 0
def sB (n m u d : Int) (b c : Bool) : Bool := if chk n m u d b = 0 then stB n m u d b c else false
end Plain

set_option maxHeartbeats 1000000 in
theorem step17_ok (n m u d : Int) (b c : Bool) (w : World) (hv : Plain.chk n m u d b = 0) (u' d' : Int) (b' : Bool) (hu : Plain.stU n u c = u') (hd : Plain.stD m d c = d') (hb : Plain.stB n m u d b c = b') :
    Calls Try.prog 17 #[.agg #[.int .i64 n, .int .i64 m, .int .i64 u, .int .i64 d, .bool b], .bool c] w fun e w' => e = .returned (.tuple #[.agg #[.int .i64 n, .int .i64 m, .int .i64 u', .int .i64 d', .bool b'], .int .i64 0]) ∧ Below w.heap.size w w' := by
  have H1 := Lib.hid (fun (A : Option Addr) W h => run10_is n m u d b A 1 1 [c] u' d' b' [b'] W rfl (by decide) hv (by rw [← hu, ← hd, ← hb]; rfl) (by rw [← hb]; rfl) h)
  clear hv hu hd hb
  go_enter Try.func17, Try.ntmps17
  go_wp2_with fail
  refine (H1.out _ _ ?ha).mono ?_
  case ha => exact (reads_new ((w.alloc (.cells #[.int .i64 n, .int .i64 m, .int .i64 u, .int .i64 d, .bool b] 23)).alloc (.cells #[.int .i64 0, .int .i64 0, .int .i64 0, .int .i64 0, .bool false] 23)) [c] _ (by simp)).more (by simp)
  rintro e w1 ⟨A1, c1, rfl, _, _, hb1⟩
  have hlt : w.heap.size + 1 < w1.heap.size := by have := hb1.size; simp at this; omega
  have hs0 := hb1.cell (p := ⟨w.heap.size + 1, 0, none⟩) (by simp)
  have hs1 := hb1.cell (p := ⟨w.heap.size + 1, 1, none⟩) (by simp)
  have hs2 := hb1.cell (p := ⟨w.heap.size + 1, 2, none⟩) (by simp)
  have hs3 := hb1.cell (p := ⟨w.heap.size + 1, 3, none⟩) (by simp)
  have hs4 := hb1.cell (p := ⟨w.heap.size + 1, 4, none⟩) (by simp)
  have hfr := fun i => hb1.frozen (p := ⟨w.heap.size + 1, i, none⟩) (by simp)
  have k1 := bthen (balloc (below2 w _ _) _) hb1
  go_wp2_with fail
  refine bodyPost_ret (v := .tuple #[.agg #[.int .i64 n, .int .i64 m, .int .i64 u', .int .i64 d', .bool b'], .int .i64 0]) (by simp [results, Try.results17, go_sem, hs0, hs1, hs2, hs3, hs4, hlt]) rfl ⟨rfl, ?_⟩
  have k2 := below_set5 k1 (g := w.heap.size + 1) (by omega)
  exact (k2 _ _ _ _ _).alloc (k2 _ _ _ _ _).size _

set_option maxHeartbeats 1000000 in
theorem step17_e (n m u d : Int) (b c : Bool) (r : Int) (w : World) (hv : Plain.chk n m u d b = r) (hne : (r != 0) = true) :
    Calls Try.prog 17 #[.agg #[.int .i64 n, .int .i64 m, .int .i64 u, .int .i64 d, .bool b], .bool c] w fun e w' => e = .returned (.tuple #[.agg #[.int .i64 0, .int .i64 0, .int .i64 0, .int .i64 0, .bool false], .int .i64 r]) ∧ Below w.heap.size w w' := by
  have H1 := Lib.hid (fun (A : Option Addr) W => run10_e n m u d b A 1 1 r W hv hne)
  clear hv hne
  go_enter Try.func17, Try.ntmps17
  go_wp2_with fail
  refine (H1.out _ _).mono ?_
  rintro e w1 ⟨rfl, hb1⟩
  have hlt : w.heap.size + 1 < w1.heap.size := by have := hb1.size; simp at this; omega
  have hs0 := hb1.cell (p := ⟨w.heap.size + 1, 0, none⟩) (by simp)
  have hs1 := hb1.cell (p := ⟨w.heap.size + 1, 1, none⟩) (by simp)
  have hs2 := hb1.cell (p := ⟨w.heap.size + 1, 2, none⟩) (by simp)
  have hs3 := hb1.cell (p := ⟨w.heap.size + 1, 3, none⟩) (by simp)
  have hs4 := hb1.cell (p := ⟨w.heap.size + 1, 4, none⟩) (by simp)
  have hfr := fun i => hb1.frozen (p := ⟨w.heap.size + 1, i, none⟩) (by simp)
  have k1 := bthen (balloc (below2 w _ _) _) hb1
  go_wp2_with fail
  refine bodyPost_ret (v := .tuple #[.agg #[.int .i64 0, .int .i64 0, .int .i64 0, .int .i64 0, .bool false], .int .i64 r]) (by simp [results, Try.results17, go_sem, hs0, hs1, hs2, hs3, hs4, hlt]) rfl ⟨rfl, ?_⟩
  have k2 := below_set5 k1 (g := w.heap.size + 1) (by omega)
  exact (k2 _ _ _ _ _).alloc (k2 _ _ _ _ _).size _

theorem step17_any (n m u d : Int) (b c : Bool) (w : World) :
    Calls Try.prog 17 #[.agg #[.int .i64 n, .int .i64 m, .int .i64 u, .int .i64 d, .bool b], .bool c] w fun e w' => e = .returned (.tuple #[.agg #[.int .i64 (Plain.sN n m u d b), .int .i64 (Plain.sM n m u d b), .int .i64 (Plain.sU n m u d b c), .int .i64 (Plain.sD n m u d b c), .bool (Plain.sB n m u d b c)], .int .i64 (Plain.chk n m u d b)]) ∧ Below w.heap.size w w' := by
  by_cases h : Plain.chk n m u d b = 0
  · rw [Plain.sN, Plain.sM, Plain.sU, Plain.sD, Plain.sB, if_pos h, if_pos h, if_pos h, if_pos h, if_pos h, h]
    exact step17_ok n m u d b c w h _ _ _ rfl rfl rfl
  · rw [Plain.sN, Plain.sM, Plain.sU, Plain.sD, Plain.sB, if_neg h, if_neg h, if_neg h, if_neg h, if_neg h]
    exact step17_e n m u d b c _ w rfl (by simpa using h)

set_option maxHeartbeats 1000000 in
theorem step18_ok (n m u d : Int) (b c : Bool) (w : World) (hv : Plain.chk n m u d b = 0) :
    Calls Try.prog 18 #[.agg #[.int .i64 n, .int .i64 m, .int .i64 u, .int .i64 d, .bool b], .bool c] w fun e w' => e = .returned (.tuple #[.agg #[.int .i64 n, .int .i64 m, .int .i64 (Plain.stU n u c), .int .i64 (Plain.stD m d c), .bool (Plain.stB n m u d b c)], .int .i64 0]) ∧ Below w.heap.size w w' := by
  have H1 := Lib.hid (fun W => check21_is n m u d b 0 hv W)
  have H2 := Lib.hid (fun W => step27_any c n m u d b W hv)
  clear hv
  go_enter Try.func18, Try.ntmps18
  go_wp2_with fail
  refine (H1.out _).mono ?_
  rintro e w1 ⟨rfl, hb1⟩
  have hlt : w.heap.size + 1 < w1.heap.size := by have := hb1.size; simp at this; omega
  have hc0 := hb1.cell (p := ⟨w.heap.size, 0, none⟩) (by simp; omega)
  have hc1 := hb1.cell (p := ⟨w.heap.size, 1, none⟩) (by simp; omega)
  have hc2 := hb1.cell (p := ⟨w.heap.size, 2, none⟩) (by simp; omega)
  have hc3 := hb1.cell (p := ⟨w.heap.size, 3, none⟩) (by simp; omega)
  have hc4 := hb1.cell (p := ⟨w.heap.size, 4, none⟩) (by simp; omega)
  have k1 := bthen (below2 w _ _) hb1
  go_wp2_with fail
  refine (H2.out _).mono ?_
  rintro e w2 ⟨rfl, hb2⟩
  have hlt2 : w.heap.size + 1 < w2.heap.size := by have := hb2.size; omega
  have k2 := bthen k1 hb2
  have k3 := hb1.trans (hb2.mono hb1.size)
  have hs0 := k3.cell (p := ⟨w.heap.size + 1, 0, none⟩) (by simp)
  have hs1 := k3.cell (p := ⟨w.heap.size + 1, 1, none⟩) (by simp)
  have hs2 := k3.cell (p := ⟨w.heap.size + 1, 2, none⟩) (by simp)
  have hs3 := k3.cell (p := ⟨w.heap.size + 1, 3, none⟩) (by simp)
  have hs4 := k3.cell (p := ⟨w.heap.size + 1, 4, none⟩) (by simp)
  have hfr := fun i => k3.frozen (p := ⟨w.heap.size + 1, i, none⟩) (by simp)
  clear hc0 hc1 hc2 hc3 hc4
  go_wp2_with fail
  refine bodyPost_ret (v := .tuple #[.agg #[.int .i64 n, .int .i64 m, .int .i64 (Plain.stU n u c), .int .i64 (Plain.stD m d c), .bool (Plain.stB n m u d b c)], .int .i64 0]) (by simp [results, Try.results18, go_sem, hs0, hs1, hs2, hs3, hs4]) rfl ⟨rfl, ?_⟩
  exact below_set5 k2 (by omega) _ _ _ _ _

set_option maxHeartbeats 1000000 in
theorem step18_e (n m u d : Int) (b c : Bool) (r : Int) (w : World) (hv : Plain.chk n m u d b = r) (hne : (r != 0) = true) :
    Calls Try.prog 18 #[.agg #[.int .i64 n, .int .i64 m, .int .i64 u, .int .i64 d, .bool b], .bool c] w fun e w' => e = .returned (.tuple #[.agg #[.int .i64 0, .int .i64 0, .int .i64 0, .int .i64 0, .bool false], .int .i64 r]) ∧ Below w.heap.size w w' := by
  have H1 := Lib.hid (fun W => check21_is n m u d b r hv W)
  clear hv
  go_enter Try.func18, Try.ntmps18
  go_wp2_with fail
  refine (H1.out _).mono ?_
  rintro e w1 ⟨rfl, hb1⟩
  have hlt : w.heap.size + 1 < w1.heap.size := by have := hb1.size; simp at this; omega
  have k1 := bthen (below2 w _ _) hb1
  have hs0 := hb1.cell (p := ⟨w.heap.size + 1, 0, none⟩) (by simp)
  have hs1 := hb1.cell (p := ⟨w.heap.size + 1, 1, none⟩) (by simp)
  have hs2 := hb1.cell (p := ⟨w.heap.size + 1, 2, none⟩) (by simp)
  have hs3 := hb1.cell (p := ⟨w.heap.size + 1, 3, none⟩) (by simp)
  have hs4 := hb1.cell (p := ⟨w.heap.size + 1, 4, none⟩) (by simp)
  have hfr := fun i => hb1.frozen (p := ⟨w.heap.size + 1, i, none⟩) (by simp)
  go_wp2_with fail
  refine bodyPost_ret (v := .tuple #[.agg #[.int .i64 0, .int .i64 0, .int .i64 0, .int .i64 0, .bool false], .int .i64 r]) (by simp [results, Try.results18, go_sem, hs0, hs1, hs2, hs3, hs4]) rfl ⟨rfl, ?_⟩
  exact below_set5 k1 (by omega) _ _ _ _ _

theorem step18_any (n m u d : Int) (b c : Bool) (w : World) :
    Calls Try.prog 18 #[.agg #[.int .i64 n, .int .i64 m, .int .i64 u, .int .i64 d, .bool b], .bool c] w fun e w' => e = .returned (.tuple #[.agg #[.int .i64 (Plain.sN n m u d b), .int .i64 (Plain.sM n m u d b), .int .i64 (Plain.sU n m u d b c), .int .i64 (Plain.sD n m u d b c), .bool (Plain.sB n m u d b c)], .int .i64 (Plain.chk n m u d b)]) ∧ Below w.heap.size w w' := by
  by_cases h : Plain.chk n m u d b = 0
  · rw [Plain.sN, Plain.sM, Plain.sU, Plain.sD, Plain.sB, if_pos h, if_pos h, if_pos h, if_pos h, if_pos h, h]
    exact step18_ok n m u d b c w h
  · rw [Plain.sN, Plain.sM, Plain.sU, Plain.sD, Plain.sB, if_neg h, if_neg h, if_neg h, if_neg h, if_neg h]
    exact step18_e n m u d b c _ w rfl (by simpa using h)
end Go.Proofs.Ytffchacanekhgaa
