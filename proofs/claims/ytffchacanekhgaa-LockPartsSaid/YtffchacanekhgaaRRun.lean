/-
  WALKS: Run of the reference.
-/
import Derived.Test.YtffchacanekhgaaRStep
namespace Go.Proofs.Ytffchacanekhgaa
open Go.RowKit

/-- A detector's value in a variable. -/
def Lkb (w : World) (g : Nat) (n m u d : Int) (b : Bool) : Prop := w.heap[g]? = some (.cells #[.int .i64 n, .int .i64 m, .int .i64 u, .int .i64 d, .bool b] 23 (0, 0))
section
variable {w w' : World} {g : Nat} {n m u d : Int} {b : Bool}
theorem Lkb.cells (h : Lkb w g n m u d b) : w.cell? ⟨g, 0, none⟩ = some (.int .i64 n) ∧ w.cell? ⟨g, 1, none⟩ = some (.int .i64 m) ∧ w.cell? ⟨g, 2, none⟩ = some (.int .i64 u) ∧ w.cell? ⟨g, 3, none⟩ = some (.int .i64 d) ∧ w.cell? ⟨g, 4, none⟩ = some (.bool b) := by
  unfold Lkb at h
  refine ⟨?_, ?_, ?_, ?_, ?_⟩ <;> simp [World.cell?, h]
theorem Lkb.frozen (h : Lkb w g n m u d b) (i : Nat) : w.frozen? ⟨g, i, none⟩ = false := by
  unfold Lkb at h
  simp [World.frozen?, h]
theorem Lkb.lt (h : Lkb w g n m u d b) : g < w.heap.size := lt_of_block h
theorem Lkb.below {B : Nat} (h : Lkb w g n m u d b) (hb : Below B w w') (hg : g < B) : Lkb w' g n m u d b := (hb.block g hg).trans h
theorem Lkb.grown {row : Option Nat} (h : Lkb w g n m u d b) (hb : w.grownBy w' row) (hg : some g ≠ row) : Lkb w' g n m u d b := (hb.block g h.lt hg).trans h
theorem Lkb.alloc (h : Lkb w g n m u d b) (o : Obj) : Lkb (w.alloc o) g n m u d b := (Below.heap_alloc w o g h.lt).trans h
theorem Lkb.set5 (h : Lkb w g n m u d b) (n' m' u' d' : Int) (b' : Bool) : Lkb (((((w.setCell ⟨g, 0, none⟩ (.int .i64 n')).setCell ⟨g, 1, none⟩ (.int .i64 m')).setCell ⟨g, 2, none⟩ (.int .i64 u')).setCell ⟨g, 3, none⟩ (.int .i64 d')).setCell ⟨g, 4, none⟩ (.bool b')) g n' m' u' d' b' := by
  unfold Lkb at h ⊢
  simp [World.setCell, Array.getElem?_modify, h]
theorem Lkb.far5 (h : Lkb w g n m u d b) {g' : Nat} (hg : g ≠ g') (v0 v1 v2 v3 v4 : Value) : Lkb (((((w.setCell ⟨g', 0, none⟩ v0).setCell ⟨g', 1, none⟩ v1).setCell ⟨g', 2, none⟩ v2).setCell ⟨g', 3, none⟩ v3).setCell ⟨g', 4, none⟩ v4) g n m u d b :=
  (Below.heap_setCell _ ⟨g', 4, none⟩ v4 g hg).trans ((Below.heap_setCell _ ⟨g', 3, none⟩ v3 g hg).trans ((Below.heap_setCell _ ⟨g', 2, none⟩ v2 g hg).trans ((Below.heap_setCell _ ⟨g', 1, none⟩ v1 g hg).trans ((Below.heap_setCell _ ⟨g', 0, none⟩ v0 g hg).trans h))))
end

theorem own_below {w w' : World} {base : Nat} {e : TypeId} {size n : Nat} {v : Value} {xs : List Value} (h : w.ownsRow base e size v n xs) (hb : Below w.heap.size w w') : w'.ownsRow base e size v n xs := by
  refine h.kept (row := none) ⟨hb.os, hb.tape, hb.output, hb.size, fun k hk _ => hb.block k hk⟩ ?_
  cases v.ownBlock with
  | none => exact Or.inl rfl
  | some _ => exact Or.inr (by simp)

theorem own_ge {w : World} {base : Nat} {e : TypeId} {size n : Nat} {v : Value} {xs : List Value} (h : w.ownsRow base e size v n xs) {g : Nat} (hg : v.ownBlock = some g) : base ≤ g := by
  rcases h.2 with ⟨rfl, _⟩ | ⟨g', cap, cur, rfl, hge, _⟩
  · exact absurd hg (by simp [Value.ownBlock])
  · have : g' = g := by simpa [Value.ownBlock] using hg
    omega
theorem cell_new_at (w : World) (v : Value) (t : TypeId) (i : Nat) (hi : i = w.heap.size) : ∀ (j : Nat) (u : Value), [v][j]? = some u → (w.alloc (.cells #[v] t)).cell? ((⟨i, 0, none⟩ : Addr).add j) = some u := by
  subst hi; exact cell_one_new w v t

set_option maxHeartbeats 2000000 in
theorem run11_ok (n m u d : Int) (b : Bool) (A : Option Addr) (cap : Nat) (cs : List Bool) (w : World) (hk : cs.length ≤ 10000) (hv : Plain.chk n m u d b = 0) (hr : ReadsB w w.heap.size A cs) :
    Calls Try.prog 11 #[.agg #[.int .i64 n, .int .i64 m, .int .i64 u, .int .i64 d, .bool b], .slice A cs.length cap] w fun e w' => ∃ v', e = .returned (.tuple #[.agg #[.int .i64 n, .int .i64 m, .int .i64 (Plain.runS n m (u, d, b) cs).1, .int .i64 (Plain.runS n m (u, d, b) cs).2.1, .bool (Plain.runS n m (u, d, b) cs).2.2], v', .int .i64 0]) ∧
      w'.ownsRow w.heap.size 4 1 v' cs.length ((Plain.runL n m (u, d, b) cs).map Value.bool) ∧ Below w.heap.size w w' := by
  obtain ⟨i0, hi, hz0, hz1, hz2⟩ := info_parts info4
  obtain ⟨k, hkl⟩ : ∃ k, cs.length = k := ⟨_, rfl⟩
  rw [hkl] at hk ⊢
  have HK := Lib.hid hkl; clear hkl
  have HC := Lib.hid (check21_is n m u d b 0 hv)
  have HV := Lib.hid hv; clear hv
  have HR := Lib.hid hr; clear hr
  go_enter Try.func11, Try.ntmps11
  go_wp2_with fail
  refine (HC.out _).mono ?_
  rintro e w1 ⟨rfl, hb1⟩
  have hlt : w.heap.size + 1 < w1.heap.size := by have := hb1.size; simp at this; omega
  have hL0 : Lkb w1 w.heap.size n m u d b := (hb1.block _ (by simp; omega)).trans ((Below.heap_alloc _ _ _ (by simp)).trans (heap_new_at _ _ _ rfl))
  have hZ0 : Lkb w1 (w.heap.size + 1) 0 0 0 0 false := (hb1.block _ (by simp)).trans (heap_new_at _ _ _ (by simp))
  have kB : Below w.heap.size w w1 := (below2 w _ _).trans (hb1.mono (by simp; omega))
  go_wp2_with fail
  go_loopw [5, 8] (fun v i wr => ∃ j : Nat, j ≤ k ∧ i = .int .i64 j ∧ wr.ownsRow w1.heap.size 4 1 v j ((Plain.runL n m (u, d, b) (cs.take j)).map Value.bool) ∧
      Lkb wr w.heap.size n m (Plain.runS n m (u, d, b) (cs.take j)).1 (Plain.runS n m (u, d, b) (cs.take j)).2.1 (Plain.runS n m (u, d, b) (cs.take j)).2.2 ∧ Lkb wr (w.heap.size + 1) 0 0 0 0 false ∧ w1.heap.size ≤ wr.heap.size ∧ Below w.heap.size w wr) (fun _ i _ => k - (intOf i).toNat)
  case atStart => exact ⟨0, Nat.zero_le _, rfl, World.ownsRow_nil _ _ _ _, hL0, hZ0, Nat.le_refl _, kB⟩
  case round =>
    obtain ⟨j, hj, rfl, hown, hL, hZ, hsz, hB⟩ := hrel
    by_cases hltj : j < k
    · have hjl : j < cs.length := by rw [HK.out]; exact hltj
      obtain ⟨ad, hA, hab, hcell⟩ := (HR.out.below hB) j hjl
      subst hA
      have hv1 := Plain.chk_run n m (u, d, b) (cs.take j) HV.out
      have eS := Plain.runS_take n m (u, d, b) cs j hjl
      have eL := Plain.runL_take n m (u, d, b) cs j hjl
      generalize cs[j] = c at hcell eS eL
      generalize Plain.runS n m (u, d, b) (cs.take j) = t at hL hv1 eS eL
      obtain ⟨t1, t2, t3⟩ := t
      have hst := Lib.hid (fun W => step27_any c n m t1 t2 t3 W hv1)
      clear hv1
      obtain ⟨c0, c1, c2, c3, c4⟩ := hL.cells
      have hfr := hL.frozen
      have ES := Lib.hid eS; clear eS
      have EL := Lib.hid eL; clear eL
      have HO := Lib.hid hown; clear hown
      have HL := Lib.hid hL; clear hL
      have HZ := Lib.hid hZ; clear hZ
      go_wp2_with fail
      have hq : ∀ w2 : World, Below wr.drew.heap.size wr.drew w2 → Lkb w2 w.heap.size n m t1 t2 t3 := fun w2 hb => (show Lkb wr.drew w.heap.size n m t1 t2 t3 from HL.out).below hb (by have := HL.out.lt; exact this)
      have HQ := Lib.hid hq; clear hq
      go_region_with (go_at_call 27; refine (hst.out _).mono ?_; rintro e w2 ⟨rfl, hb2⟩; obtain ⟨q0, q1, q2, q3, q4⟩ := (HQ.out w2 hb2).cells; have qf := (HQ.out w2 hb2).frozen)
      all_goals
        have hL2 := HQ.out w2 hb2
        have hZ2 : Lkb w2 (w.heap.size + 1) 0 0 0 0 false := (show Lkb wr.drew (w.heap.size + 1) 0 0 0 0 false from HZ.out).below hb2 (by have := HZ.out.lt; exact this)
        have hO2 : w2.ownsRow w1.heap.size 4 1 u5 j _ := own_below (show wr.drew.ownsRow w1.heap.size 4 1 u5 j _ from HO.out) hb2
        have hsz2 : wr.heap.size ≤ w2.heap.size := hb2.size
        have hB2 : Below w.heap.size w w2 := hB.drew.trans (hb2.mono (by show w.heap.size ≤ wr.heap.size; omega))
        have hO3 := own_set5 hO2 (g := w.heap.size) (by omega) (.int .i64 n) (.int .i64 m) (.int .i64 (Plain.stU n t1 c)) (.int .i64 (Plain.stD m t2 c)) (.bool (Plain.stB n m t1 t2 t3 c))
        have hL3 := Lib.hid (hL2.set5 n m (Plain.stU n t1 c) (Plain.stD m t2 c) (Plain.stB n m t1 t2 t3 c))
        have hZ3 := Lib.hid (hZ2.far5 (g' := w.heap.size) (by omega) (.int .i64 n) (.int .i64 m) (.int .i64 (Plain.stU n t1 c)) (.int .i64 (Plain.stD m t2 c)) (.bool (Plain.stB n m t1 t2 t3 c)))
        have hB3 := below_set5 hB2 (g := w.heap.size) (Nat.le_refl _) (.int .i64 n) (.int .i64 m) (.int .i64 (Plain.stU n t1 c)) (.int .i64 (Plain.stD m t2 c)) (.bool (Plain.stB n m t1 t2 t3 c))
        clear hL2 hZ2 hB2
        go_wp2_with (at_builtin; refine wpList_append_own _ rfl _ _ 24 rfl w1.heap.size 4 i0 (.bool false) 1 1 Try.underlying24 hi hz0 hz1 hz2 rfl (by decide) _ _ _ rfl (hO3.alloc _) ⟨w2.heap.size, 0, none⟩ 1 1 [.bool (Plain.stB n m t1 t2 t3 c)] rfl rfl ?_ ?_ ?_ ?_ ?_ ?_; rotate_left 5; intro v' w4 hown4 hg4 _)
        rotate_left 1
        · exact cell_new_at _ _ _ _ (by simp)
        · simp [Value.oneCell']
        · simp only [maxLen]; omega
        · omega
        · simp; omega
        have hrow : ∀ g, u5.ownBlock = some g → w1.heap.size ≤ g := fun g e => own_ge hO3 e
        have hg5 := Lib.hid hg4; clear hg4
        go_roundw
        case rel =>
          refine ⟨j + 1, by omega, by go_num, ?_, ?_, ?_, ?_, ?_⟩
          · rw [EL.out, List.map_append]; exact hown4
          · rw [ES.out]; exact (hL3.out.alloc _).grown hg5.out (fun e => by have := hrow _ e.symm; omega)
          · exact (hZ3.out.alloc _).grown hg5.out (fun e => by have := hrow _ e.symm; omega)
          · have := hg5.out.size; simp at this; omega
          · exact (hB3.alloc hB3.size _).grown hg5.out (by simp; omega) (fun g e => by have := hrow _ e; omega)
        case measure => simp [intOf]; omega
    · obtain rfl : j = k := by omega
      rw [List.take_of_length_le (by rw [HK.out]; exact Nat.le_refl _)] at hown hL
      have HO := Lib.hid hown; clear hown
      obtain ⟨c0, c1, c2, c3, c4⟩ := hL.cells
      obtain ⟨z0, z1, z2, z3, z4⟩ := hZ.cells
      have hfr := hZ.frozen
      have hlt2 := hZ.lt
      clear hL hZ
      go_wp2_with fail
      refine bodyPost_ret (v := .tuple #[.agg #[.int .i64 n, .int .i64 m, .int .i64 (Plain.runS n m (u, d, b) cs).1, .int .i64 (Plain.runS n m (u, d, b) cs).2.1, .bool (Plain.runS n m (u, d, b) cs).2.2], u5, .int .i64 0]) (by simp [results, Try.results11, go_sem, z0, z1, z2, z3, z4]) rfl ⟨u5, rfl, ?_, ?_⟩
      · exact ownsRow_base (own_set5 HO.out (by omega) _ _ _ _ _) (by omega)
      · exact below_set5 hB (by omega) _ _ _ _ _

theorem run11_e (n m u d : Int) (b : Bool) (A : Option Addr) (k cap : Nat) (r : Int) (w : World) (hv : Plain.chk n m u d b = r) (hne2 : (r != 0) = true) :
    Calls Try.prog 11 #[.agg #[.int .i64 n, .int .i64 m, .int .i64 u, .int .i64 d, .bool b], .slice A k cap] w fun e w' => e = .returned (.tuple #[.agg #[.int .i64 0, .int .i64 0, .int .i64 0, .int .i64 0, .bool false], .slice none 0 0, .int .i64 r]) ∧ Below w.heap.size w w' := by
  have HC := Lib.hid (check21_is n m u d b r hv); clear hv
  go_enter Try.func11, Try.ntmps11
  go_wp2_with fail
  refine (HC.out _).mono ?_
  rintro e w1 ⟨rfl, hb1⟩
  have hlt : w.heap.size + 1 < w1.heap.size := by have := hb1.size; simp at this; omega
  have hs0 := hb1.cell (p := ⟨w.heap.size + 1, 0, none⟩) (by simp)
  have hs1 := hb1.cell (p := ⟨w.heap.size + 1, 1, none⟩) (by simp)
  have hs2 := hb1.cell (p := ⟨w.heap.size + 1, 2, none⟩) (by simp)
  have hs3 := hb1.cell (p := ⟨w.heap.size + 1, 3, none⟩) (by simp)
  have hs4 := hb1.cell (p := ⟨w.heap.size + 1, 4, none⟩) (by simp)
  have hfr := fun i => hb1.frozen (p := ⟨w.heap.size + 1, i, none⟩) (by simp)
  have kB : Below w.heap.size w w1 := (below2 w _ _).trans (hb1.mono (by simp; omega))
  go_wp2_with fail
  refine bodyPost_ret (v := .tuple #[.agg #[.int .i64 0, .int .i64 0, .int .i64 0, .int .i64 0, .bool false], .slice none 0 0, .int .i64 r]) (by simp [results, Try.results11, go_sem, hs0, hs1, hs2, hs3, hs4]) rfl ⟨rfl, ?_⟩
  exact below_set5 kB (by omega) _ _ _ _ _
theorem run11_l (n m u d : Int) (b : Bool) (A : Option Addr) (k cap : Nat) (w : World) (hv : Plain.chk n m u d b = 0) (hk : 10000 < k) :
    Calls Try.prog 11 #[.agg #[.int .i64 n, .int .i64 m, .int .i64 u, .int .i64 d, .bool b], .slice A k cap] w fun e w' => e = .returned (.tuple #[.agg #[.int .i64 0, .int .i64 0, .int .i64 0, .int .i64 0, .bool false], .slice none 0 0, .int .i64 4]) ∧ Below w.heap.size w w' := by
  have HC := Lib.hid (check21_is n m u d b 0 hv); clear hv
  go_enter Try.func11, Try.ntmps11
  go_wp2_with fail
  refine (HC.out _).mono ?_
  rintro e w1 ⟨rfl, hb1⟩
  have hlt : w.heap.size + 1 < w1.heap.size := by have := hb1.size; simp at this; omega
  have hs0 := hb1.cell (p := ⟨w.heap.size + 1, 0, none⟩) (by simp)
  have hs1 := hb1.cell (p := ⟨w.heap.size + 1, 1, none⟩) (by simp)
  have hs2 := hb1.cell (p := ⟨w.heap.size + 1, 2, none⟩) (by simp)
  have hs3 := hb1.cell (p := ⟨w.heap.size + 1, 3, none⟩) (by simp)
  have hs4 := hb1.cell (p := ⟨w.heap.size + 1, 4, none⟩) (by simp)
  have hfr := fun i => hb1.frozen (p := ⟨w.heap.size + 1, i, none⟩) (by simp)
  have kB : Below w.heap.size w w1 := (below2 w _ _).trans (hb1.mono (by simp; omega))
  go_wp2_with fail
  refine bodyPost_ret (v := .tuple #[.agg #[.int .i64 0, .int .i64 0, .int .i64 0, .int .i64 0, .bool false], .slice none 0 0, .int .i64 4]) (by simp [results, Try.results11, go_sem, hs0, hs1, hs2, hs3, hs4]) rfl ⟨rfl, ?_⟩
  exact below_set5 kB (by omega) _ _ _ _ _
end Go.Proofs.Ytffchacanekhgaa
