/-
  WALKS: Run of package lock.
-/
import Derived.Test.YtffchacanekhgaaRunB
namespace Go.Proofs.Ytffchacanekhgaa
open Go.RowKit

theorem ownsRow_base {w : World} {base base' : Nat} {e : TypeId} {size n : Nat} {v : Value} {xs : List Value} (h : w.ownsRow base e size v n xs) (hb : base' ≤ base) : w.ownsRow base' e size v n xs := by
  obtain ⟨h1, h2⟩ := h
  refine ⟨h1, ?_⟩
  rcases h2 with h2 | ⟨g, cap, cur, e1, e2, e3⟩
  · exact Or.inl h2
  · exact Or.inr ⟨g, cap, cur, e1, by omega, e3⟩

theorem heap_new_at (w : World) (o : Obj) (i : Nat) (hi : i = w.heap.size) : (w.alloc o).heap[i]? = some o := by subst hi; exact heap_alloc_new w o
theorem own_set1 {w : World} {base : Nat} {e : TypeId} {size n : Nat} {v : Value} {xs : List Value} (h : w.ownsRow base e size v n xs) {p : Addr} (hg : p.block < base) (u : Value) : (w.setCell p u).ownsRow base e size v n xs := by
  refine ownsRow_setCell_other h ?_ u
  rcases h.2 with ⟨rfl, _⟩ | ⟨g', cap, cur, rfl, hge, _⟩
  · simp [Value.ownBlock]
  · intro he
    have : g' = p.block := by simpa [Value.ownBlock] using he
    omega
theorem own_set5 {w : World} {base : Nat} {e : TypeId} {size n : Nat} {v : Value} {xs : List Value} (h : w.ownsRow base e size v n xs) {g : Nat} (hg : g < base) (v0 v1 v2 v3 v4 : Value) :
    (((((w.setCell ⟨g, 0, none⟩ v0).setCell ⟨g, 1, none⟩ v1).setCell ⟨g, 2, none⟩ v2).setCell ⟨g, 3, none⟩ v3).setCell ⟨g, 4, none⟩ v4).ownsRow base e size v n xs :=
  own_set1 (own_set1 (own_set1 (own_set1 (own_set1 h (p := ⟨g, 0, none⟩) hg v0) (p := ⟨g, 1, none⟩) hg v1) (p := ⟨g, 2, none⟩) hg v2) (p := ⟨g, 3, none⟩) hg v3) (p := ⟨g, 4, none⟩) hg v4

set_option maxHeartbeats 1000000 in
theorem run10_ok (n m u d : Int) (b : Bool) (A : Option Addr) (cap : Nat) (cs : List Bool) (w : World) (hk : cs.length ≤ 10000) (hv : Plain.chk n m u d b = 0) (hr : ReadsB w w.heap.size A cs) :
    Calls Try.prog 10 #[.agg #[.int .i64 n, .int .i64 m, .int .i64 u, .int .i64 d, .bool b], .slice A cs.length cap] w fun e w' => ∃ v', e = .returned (.tuple #[.agg #[.int .i64 n, .int .i64 m, .int .i64 (Plain.runS n m (u, d, b) cs).1, .int .i64 (Plain.runS n m (u, d, b) cs).2.1, .bool (Plain.runS n m (u, d, b) cs).2.2], v', .int .i64 0]) ∧
      w'.ownsRow w.heap.size 4 1 v' cs.length ((Plain.runL n m (u, d, b) cs).map Value.bool) ∧ Below w.heap.size w w' := by
  obtain ⟨k, hkl⟩ : ∃ k, cs.length = k := ⟨_, rfl⟩
  have hF := fun (g bs bp bm base : Nat) (W : World) (h : Det W g n m u d b) (hc : Ctx W g bs bp bm) (hR : ReadsB W base A cs) (h1 : base ≤ W.heap.size) (h2 : base ≤ g) => fold_any g bs bp bm base n m (u, d, b) A cap cs W h hc hv hR h1 h2 hk
  rw [hkl] at hk hF ⊢
  have HK := Lib.hid hkl; clear hkl
  have HF := Lib.hid hF; clear hF
  have HC := Lib.hid (check14_is n m u d b 0 hv); clear hv
  have HR := Lib.hid hr; clear hr
  have hmm := @run_makeMap Try.prog
  go_enter Try.func10, Try.ntmps10
  go_wp2_with fail
  refine (HC.out _).mono ?_
  rintro e w1 ⟨rfl, hb1⟩
  have hlt : w.heap.size + 1 < w1.heap.size := by have := hb1.size; simp at this; omega
  have hr0 := hb1.cell (p := ⟨w.heap.size, 0, none⟩) (by simp; omega)
  have hr1 := hb1.cell (p := ⟨w.heap.size, 1, none⟩) (by simp; omega)
  have hr2 := hb1.cell (p := ⟨w.heap.size, 2, none⟩) (by simp; omega)
  have hr3 := hb1.cell (p := ⟨w.heap.size, 3, none⟩) (by simp; omega)
  have hr4 := hb1.cell (p := ⟨w.heap.size, 4, none⟩) (by simp; omega)
  have hup1 : ∀ (o1 o2 : Obj) (F : Value), (Instr.mapUpdate 47 (.map (some (w1.heap.size + 1 + 1))) (.bool true) F).run Try.prog (((w1.alloc o1).alloc o2).alloc (.map #[] 0)) = .ok () (((w1.alloc o1).alloc o2).alloc (.map #[{ key := .bool true, val := F, born := 0 }] 1)) := by
    intro o1 o2 F
    have := run_upd_new ((w1.alloc o1).alloc o2) #[] 0 true F rfl
    simpa using this
  have hup2 : ∀ (o1 o2 : Obj) (F F' : Value), (Instr.mapUpdate 47 (.map (some (w1.heap.size + 1 + 1))) (.bool false) F').run Try.prog (((w1.alloc o1).alloc o2).alloc (.map #[{ key := .bool true, val := F, born := 0 }] 1)) = .ok () (((w1.alloc o1).alloc o2).alloc (.map #[{ key := .bool true, val := F, born := 0 }, { key := .bool false, val := F', born := 1 }] 2)) := by
    intro o1 o2 F F'
    have := run_upd_new ((w1.alloc o1).alloc o2) #[{ key := .bool true, val := F, born := 0 }] 1 false F' rfl
    simpa using this
  go_wp2_with fail
  refine (HF.out w1.heap.size (w1.heap.size + 1 + 1 + 1) (w1.heap.size + 1) (w1.heap.size + 1 + 1) w1.heap.size _ ?hd ?hc ?hr (by simp; omega) (Nat.le_refl _)).mono ?_
  case hd => exact (((Det.new w1 n m u d b).alloc _).alloc _).alloc _
  case hc =>
    refine ⟨?_, ?_, ?_⟩
    · exact heap_new_at _ _ _ (by simp)
    · exact (Below.heap_alloc _ _ _ (by simp)).trans ((Below.heap_alloc _ _ _ (by simp)).trans (heap_new_at _ _ _ (by simp)))
    · exact (Below.heap_alloc _ _ _ (by simp)).trans (heap_new_at _ _ _ (by simp))
  case hr =>
    have k0 : Below w.heap.size w w1 := (below2 w _ _).trans (hb1.mono (by simp; omega))
    exact (HR.out.below ((((k0.alloc k0.size _).alloc (by simp; omega) _).alloc (by simp; omega) _).alloc (by simp; omega) _)).more (by omega)
  rintro e w2 ⟨v', rfl, hown, hD, hC, hB⟩
  have hp0 := cell_of_one hC.hp
  obtain ⟨c0, c1, c2, c3, c4⟩ := hD.cells
  have hW1 : Below (w.heap.size + 2) w1 w2 := ((((Below.refl _ w1).alloc (by omega) _).alloc (by simp; omega) _).alloc (by simp; omega) _ |>.alloc (by simp; omega) _).trans (hB.mono (by omega))
  have hW2 := hb1.trans (hW1.mono (by simp))
  have hlt2 : w.heap.size + 1 < w2.heap.size := by have := hW1.size; omega
  have hs0 := hW2.cell (p := ⟨w.heap.size + 1, 0, none⟩) (by simp)
  have hs1 := hW2.cell (p := ⟨w.heap.size + 1, 1, none⟩) (by simp)
  have hs2 := hW2.cell (p := ⟨w.heap.size + 1, 2, none⟩) (by simp)
  have hs3 := hW2.cell (p := ⟨w.heap.size + 1, 3, none⟩) (by simp)
  have hs4 := hW2.cell (p := ⟨w.heap.size + 1, 4, none⟩) (by simp)
  have hfr := fun i => hW2.frozen (p := ⟨w.heap.size + 1, i, none⟩) (by simp)
  have kB : Below w.heap.size w w2 := (below2 w _ _).trans (hW2.mono (by simp; omega))
  have HO := Lib.hid hown; clear hown
  have hle : w.heap.size ≤ w1.heap.size := by omega
  clear hup1 hup2 hr0 hr1 hr2 hr3 hr4 hD
  go_wp2_with fail
  refine bodyPost_ret (v := .tuple #[.agg #[.int .i64 n, .int .i64 m, .int .i64 (Plain.runS n m (u, d, b) cs).1, .int .i64 (Plain.runS n m (u, d, b) cs).2.1, .bool (Plain.runS n m (u, d, b) cs).2.2], v', .int .i64 0]) (by simp [results, Try.results10, go_sem, hs0, hs1, hs2, hs3, hs4]) rfl ⟨v', rfl, ?_, ?_⟩
  · exact ownsRow_base (own_set5 HO.out (by omega) _ _ _ _ _) hle
  · exact below_set5 kB (by omega) _ _ _ _ _

/-- The errors: of the state, or too many claims. -/
theorem run10_e (n m u d : Int) (b : Bool) (A : Option Addr) (k cap : Nat) (r : Int) (w : World) (hv : Plain.chk n m u d b = r) (hne2 : (r != 0) = true) :
    Calls Try.prog 10 #[.agg #[.int .i64 n, .int .i64 m, .int .i64 u, .int .i64 d, .bool b], .slice A k cap] w fun e w' => e = .returned (.tuple #[.agg #[.int .i64 0, .int .i64 0, .int .i64 0, .int .i64 0, .bool false], .slice none 0 0, .int .i64 r]) ∧ Below w.heap.size w w' := by
  have HC := Lib.hid (check14_is n m u d b r hv); clear hv
  go_enter Try.func10, Try.ntmps10
  go_wp2_with fail
  refine (HC.out _).mono ?_
  rintro e w1 ⟨rfl, hb1⟩
  have hlt : w.heap.size + 1 < w1.heap.size := by have := hb1.size; simp at this; omega
  have hs0 := hb1.cell (p := ⟨w.heap.size + 1, 0, none⟩) (by simp)
  have hs1 := hb1.cell (p := ⟨w.heap.size + 1, 1, none⟩) (by simp)
  have hs2 := hb1.cell (p := ⟨w.heap.size + 1, 2, none⟩) (by simp)
  have hs3 := hb1.cell (p := ⟨w.heap.size + 1, 3, none⟩) (by simp)
  have hs4 := hb1.cell (p := ⟨w.heap.size + 1, 4, none⟩) (by simp)
  have hfr := fun i => hb1.frozen (p := ⟨w.heap.size + 1, i, none⟩) (by simp)
  have kB : Below w.heap.size w w1 := (below2 w _ _).trans (hb1.mono (by simp; omega))
  go_wp2_with fail
  refine bodyPost_ret (v := .tuple #[.agg #[.int .i64 0, .int .i64 0, .int .i64 0, .int .i64 0, .bool false], .slice none 0 0, .int .i64 r]) (by simp [results, Try.results10, go_sem, hs0, hs1, hs2, hs3, hs4]) rfl ⟨rfl, ?_⟩
  exact below_set5 kB (by omega) _ _ _ _ _
theorem run10_l (n m u d : Int) (b : Bool) (A : Option Addr) (k cap : Nat) (w : World) (hv : Plain.chk n m u d b = 0) (hk : 10000 < k) :
    Calls Try.prog 10 #[.agg #[.int .i64 n, .int .i64 m, .int .i64 u, .int .i64 d, .bool b], .slice A k cap] w fun e w' => e = .returned (.tuple #[.agg #[.int .i64 0, .int .i64 0, .int .i64 0, .int .i64 0, .bool false], .slice none 0 0, .int .i64 4]) ∧ Below w.heap.size w w' := by
  have HC := Lib.hid (check14_is n m u d b 0 hv); clear hv
  go_enter Try.func10, Try.ntmps10
  go_wp2_with fail
  refine (HC.out _).mono ?_
  rintro e w1 ⟨rfl, hb1⟩
  have hlt : w.heap.size + 1 < w1.heap.size := by have := hb1.size; simp at this; omega
  have hs0 := hb1.cell (p := ⟨w.heap.size + 1, 0, none⟩) (by simp)
  have hs1 := hb1.cell (p := ⟨w.heap.size + 1, 1, none⟩) (by simp)
  have hs2 := hb1.cell (p := ⟨w.heap.size + 1, 2, none⟩) (by simp)
  have hs3 := hb1.cell (p := ⟨w.heap.size + 1, 3, none⟩) (by simp)
  have hs4 := hb1.cell (p := ⟨w.heap.size + 1, 4, none⟩) (by simp)
  have hfr := fun i => hb1.frozen (p := ⟨w.heap.size + 1, i, none⟩) (by simp)
  have kB : Below w.heap.size w w1 := (below2 w _ _).trans (hb1.mono (by simp; omega))
  go_wp2_with fail
  refine bodyPost_ret (v := .tuple #[.agg #[.int .i64 0, .int .i64 0, .int .i64 0, .int .i64 0, .bool false], .slice none 0 0, .int .i64 4]) (by simp [results, Try.results10, go_sem, hs0, hs1, hs2, hs3, hs4]) rfl ⟨rfl, ?_⟩
  exact below_set5 kB (by omega) _ _ _ _ _
end Go.Proofs.Ytffchacanekhgaa
