/-
  WALKS: a valid sentence that numbers select (skyfixlaw41.of): a channel.
-/
import Derived.Test.YteeekdffbcbamaaDoorOfA
namespace Go.Proofs.YteeekdffbcbamaaDoor
open Go.RowKit

theorem Blk.putAt {w : World} {g : Nat} {t : TypeId} {cs cs' : Array Value} (h : Blk w g t cs) (i : Nat) (u : Value) (he : cs.setIfInBounds i u = cs') : Blk (w.setCell ⟨g, i, none⟩ u) g t cs' := he ▸ h.set_ i u
def OfPost (w : World) (en : Ending) (w' : World) : Prop :=
  ∃ (x : Plain.Sn) (v : Value), en = .returned (.agg (snCells x v)) ∧ Plain.checkE x = 0 ∧ w'.ownsRow w.heap.size 3 1 v x.prns.length (x.prns.map (Value.int .i64)) ∧ Below w.heap.size w w'
/-- A sentence is stored whole. -/
theorem set_one14 {w w0 : World} {B g : Nat} {t : TypeId} {cs : Array Value} (h1 : Blk w g t cs) (hs : cs.size = 14) (hB : Below B w0 w) (hg : B ≤ g) (v0 v1 v2 v3 v4 v5 v6 v7 v8 v9 v10 v11 v12 v13 : Value) :
    ∃ W : World, (((((((((((((w.setCell ⟨g, 0, none⟩ v0).setCell ⟨g, 1, none⟩ v1).setCell ⟨g, 2, none⟩ v2).setCell ⟨g, 3, none⟩ v3).setCell ⟨g, 4, none⟩ v4).setCell ⟨g, 5, none⟩ v5).setCell ⟨g, 6, none⟩ v6).setCell ⟨g, 7, none⟩ v7).setCell ⟨g, 8, none⟩ v8).setCell ⟨g, 9, none⟩ v9).setCell ⟨g, 10, none⟩ v10).setCell ⟨g, 11, none⟩ v11).setCell ⟨g, 12, none⟩ v12).setCell ⟨g, 13, none⟩ v13 = W ∧ Blk W g t #[v0, v1, v2, v3, v4, v5, v6, v7, v8, v9, v10, v11, v12, v13] ∧ Below B w0 W ∧ W.heap.size = w.heap.size ∧ ∀ k, k ≠ g → W.heap[k]? = w.heap[k]? := by
  obtain ⟨c0, c1, c2, c3, c4, c5, c6, c7, c8, c9, c10, c11, c12, c13, rfl⟩ := size14 hs
  refine ⟨_, rfl, ?_, ?_, ?_, ?_⟩
  · have := ((((((((((((((h1.set_ 0 v0).set_ 1 v1).set_ 2 v2).set_ 3 v3).set_ 4 v4).set_ 5 v5).set_ 6 v6).set_ 7 v7).set_ 8 v8).set_ 9 v9).set_ 10 v10).set_ 11 v11).set_ 12 v12).set_ 13 v13)
    rw [set14_eq] at this
    exact this
  · exact ((((((((((((((hB.setCell (p := ⟨g, 0, none⟩) hg v0).setCell (p := ⟨g, 1, none⟩) hg v1).setCell (p := ⟨g, 2, none⟩) hg v2).setCell (p := ⟨g, 3, none⟩) hg v3).setCell (p := ⟨g, 4, none⟩) hg v4).setCell (p := ⟨g, 5, none⟩) hg v5).setCell (p := ⟨g, 6, none⟩) hg v6).setCell (p := ⟨g, 7, none⟩) hg v7).setCell (p := ⟨g, 8, none⟩) hg v8).setCell (p := ⟨g, 9, none⟩) hg v9).setCell (p := ⟨g, 10, none⟩) hg v10).setCell (p := ⟨g, 11, none⟩) hg v11).setCell (p := ⟨g, 12, none⟩) hg v12).setCell (p := ⟨g, 13, none⟩) hg v13)
  · simp [World.setCell]
  · intro k k1
    rw [Below.heap_setCell _ _ _ k k1, Below.heap_setCell _ _ _ k k1, Below.heap_setCell _ _ _ k k1, Below.heap_setCell _ _ _ k k1, Below.heap_setCell _ _ _ k k1, Below.heap_setCell _ _ _ k k1, Below.heap_setCell _ _ _ k k1, Below.heap_setCell _ _ _ k k1, Below.heap_setCell _ _ _ k k1, Below.heap_setCell _ _ _ k k1, Below.heap_setCell _ _ _ k k1, Below.heap_setCell _ _ _ k k1, Below.heap_setCell _ _ _ k k1, Below.heap_setCell _ _ _ k k1]
theorem own_heap {W W' : World} {base : Nat} {e : TypeId} {size n : Nat} {v : Value} {xs : List Value} (h : W.ownsRow base e size v n xs) (hh : ∀ g, v.ownBlock = some g → W'.heap[g]? = W.heap[g]?) : W'.ownsRow base e size v n xs := by
  refine ⟨h.1, ?_⟩
  rcases h.2 with hl | ⟨g', cap, cur, rfl, hr⟩
  · exact Or.inl hl
  · have hg := hh g' (by simp [Value.ownBlock])
    refine Or.inr ⟨g', cap, cur, rfl, ?_⟩
    rw [hg]
    exact hr
/-- The return of a sentence. -/
theorem of_ret {w W : World} {tmps : Array Value} {g : Nat} {x : Plain.Sn} {v : Value} (h4 : tmps[4]?.getD undef = .pointer (some ⟨g, 0, none⟩))
    (hA : Blk W g 31 (snCells x v)) (hx : Plain.checkE x = 0) (ho : W.ownsRow w.heap.size 3 1 v x.prns.length (x.prns.map (Value.int .i64))) (hB : Below w.heap.size w W) :
    bodyPost Tryd.prog Tryd.f13 (OfPost w) .ret { tmps := tmps, defers := [] } W := by
  obtain ⟨k0, k1, k2, k3, k4, k5, k6, k7, k8, k9, k10, k11, k12, k13⟩ := Blk.cells14 hA
  exact bodyPost_ret (v := .agg (snCells x v)) (by simp [results, Tryd.results13, go_sem, snCells, h4, k0, k1, k2, k3, k4, k5, k6, k7, k8, k9, k10, k11, k12, k13]) rfl ⟨x, v, rfl, hx, ho, hB⟩
theorem sat_ok {z0 z2 z3 z4 : Int} (b : Bool) (h0 : 0 ≤ z0 ∧ z0 < 604800000) (h2 : 0 ≤ z2 ∧ z2 < 63) (h3 : 0 ≤ z3 ∧ z3 < 8192) (h4 : 0 ≤ z4 ∧ z4 < 1000000000000000001) : Plain.checkE ⟨2, z0, b, 0, 0, 0, 0, 0, 0, [], 1 + z2, z3, z4, ⟨#[]⟩⟩ = 0 := by
  have ht : Plain.inR z0 0 604799999 = true := by unfold Plain.inR; simp; omega
  rw [(Plain.checkE_2 (x := ⟨2, z0, b, 0, 0, 0, 0, 0, 0, [], 1 + z2, z3, z4, ⟨#[]⟩⟩) rfl ht).1 ⟨rfl, rfl, rfl, rfl, rfl, rfl, rfl, rfl⟩]
  unfold Plain.chanE Plain.inR
  rw [if_neg]
  simp
  omega
set_option maxRecDepth 100000 in
set_option maxHeartbeats 4000000 in
theorem of_sat (l : List Int) (A : Option Addr) (n c : Nat) (kind : Int) (w : World) (hn : l.length = n) (hN : PrL w A l) (hk : kind % 3 = 1) :
    Calls Tryd.prog 13 #[.slice A n c, .int .i64 kind] w (OfPost w) := by
  have HNth := Lib.hid (fun W i (h : PrL W A l) => nth_any l A n c i W hn h)
  have HBel := Lib.hid (fun n k W h1 h2 => below_any n k W h1 h2)
  have HN := Lib.hid hN; clear hN
  have HK := Lib.hid hk; clear hk
  go_enter Tryd.func13, Tryd.ntmps13
  go_wp2_with fail
  refine (HBel.out _ _ _ (by omega) (by omega)).mono ?_
  rintro en w1 ⟨rfl, rfl⟩
  rw [HK.out]
  go_wp2_with fail
  refine (HNth.out _ _ (HN.out.below ((Below.refl _ _).alloc (Nat.le_refl _) _) (Nat.le_refl _))).mono ?_
  rintro en w1 ⟨rfl, rfl⟩
  go_wp2_with fail
  refine (HBel.out _ _ _ (by omega) (by omega)).mono ?_
  rintro en w1 ⟨rfl, rfl⟩
  obtain ⟨z0, hz0⟩ : ∃ z0, nthZ l 0 % 604800000 = z0 := ⟨_, rfl⟩
  have HZ0 := Lib.hid (show 0 ≤ z0 ∧ z0 < 604800000 by omega)
  rw [hz0]
  clear hz0
  go_upto_region 23 with (fail)
  obtain ⟨w2, hw2⟩ : ∃ w2, (w.alloc (.cells #[.int .i64 0, .int .i64 0, .bool false, .int .i64 0, .int .i64 0, .int .i64 0, .int .i64 0, .int .i64 0, .int .i64 0, .slice none 0 0, .int .i64 0, .int .i64 0, .int .i64 0, .string ⟨#[]⟩] 31)).alloc (.cells #[.int .i64 2, .int .i64 z0, .bool false, .int .i64 0, .int .i64 0, .int .i64 0, .int .i64 0, .int .i64 0, .int .i64 0, .slice none 0 0, .int .i64 0, .int .i64 0, .int .i64 0, .string ⟨#[]⟩] 31) = w2 := ⟨_, rfl⟩
  have HX := Lib.hid (show Blk w2 (w.heap.size + 1) 31 _ from hw2 ▸ Blk.new_at (by simp))
  have HR := Lib.hid (show Blk w2 w.heap.size 31 _ from hw2 ▸ (Blk.new_at rfl).alloc _)
  have HB := Lib.hid (show Below w.heap.size w w2 from hw2 ▸ ((Below.refl _ _).alloc (Nat.le_refl _) _).alloc (by simp) _)
  rw [hw2]
  clear hw2
  obtain ⟨x0, x1, x2, x3, x4, x5, x6, x7, x8, x9, x10, x11, x12, x13⟩ := Blk.cells14 HX.out
  have hfr := HX.out.frozen
  go_wp2_with fail
  refine (HNth.out _ _ (HN.out.below HB.out (Nat.le_refl _))).mono ?_
  rintro en w1 ⟨rfl, rfl⟩
  go_wp2_with fail
  refine (HBel.out _ _ _ (by omega) (by omega)).mono ?_
  rintro en w1 ⟨rfl, rfl⟩
  generalize nthZ l 1 % 2 = z1
  go_upto_region 24 with (fail)
  have HX3 := Lib.hid (show Blk (w2.setCell ⟨w.heap.size + 1, 2, none⟩ (.bool (z1 == 1))) (w.heap.size + 1) 31 _ from Blk.putAt HX.out 2 _ rfl)
  have HR3 := Lib.hid (show Blk (w2.setCell ⟨w.heap.size + 1, 2, none⟩ (.bool (z1 == 1))) w.heap.size 31 _ from HR.out.far (by simp) _)
  have HB3 := Lib.hid (show Below w.heap.size w (w2.setCell ⟨w.heap.size + 1, 2, none⟩ (.bool (z1 == 1))) from HB.out.setCell (by simp) _)
  clear x0 x1 x2 x3 x4 x5 x6 x7 x8 x9 x10 x11 x12 x13 hfr HX HR HB
  generalize w2.setCell ⟨w.heap.size + 1, 2, none⟩ (.bool (z1 == 1)) = w3 at *
  obtain ⟨x0, x1, x2, x3, x4, x5, x6, x7, x8, x9, x10, x11, x12, x13⟩ := Blk.cells14 HX3.out
  have hfr := HX3.out.frozen
  go_wp2_with fail
  refine (HNth.out _ _ (HN.out.below HB3.out (Nat.le_refl _))).mono ?_
  rintro en w1 ⟨rfl, rfl⟩
  go_wp2_with fail
  refine (HBel.out _ _ _ (by omega) (by omega)).mono ?_
  rintro en w1 ⟨rfl, rfl⟩
  obtain ⟨z2, hz2⟩ : ∃ z, nthZ l 2 % 63 = z := ⟨_, rfl⟩
  have HZ2 := Lib.hid (show 0 ≤ z2 ∧ z2 < 63 by omega)
  rw [hz2]
  clear hz2
  have hz2 := HZ2.out
  go_wp2_with fail
  refine (HNth.out _ _ (HN.out.below HB3.out (Nat.le_refl _))).mono ?_
  rintro en w1 ⟨rfl, rfl⟩
  go_wp2_with fail
  refine (HBel.out _ _ _ (by omega) (by omega)).mono ?_
  rintro en w1 ⟨rfl, rfl⟩
  obtain ⟨z3, hz3⟩ : ∃ z, nthZ l 3 % 8192 = z := ⟨_, rfl⟩
  have HZ3 := Lib.hid (show 0 ≤ z3 ∧ z3 < 8192 by omega)
  rw [hz3]
  clear hz3
  go_wp2_with fail
  refine (HNth.out _ _ (HN.out.below HB3.out (Nat.le_refl _))).mono ?_
  rintro en w1 ⟨rfl, rfl⟩
  go_wp2_with fail
  refine (HBel.out _ _ _ (by omega) (by omega)).mono ?_
  rintro en w1 ⟨rfl, rfl⟩
  obtain ⟨z4, hz4⟩ : ∃ z, nthZ l 4 % 1000000000000000001 = z := ⟨_, rfl⟩
  have HZ4 := Lib.hid (show 0 ≤ z4 ∧ z4 < 1000000000000000001 by omega)
  rw [hz4]
  clear hz4
  go_upto_region 25 with (fail)
  have HX4 := Lib.hid (show Blk (((w3.setCell ⟨w.heap.size + 1, 10, none⟩ (.int .i64 (1 + z2))).setCell ⟨w.heap.size + 1, 11, none⟩ (.int .i64 z3)).setCell ⟨w.heap.size + 1, 12, none⟩ (.int .i64 z4)) (w.heap.size + 1) 31 _ from Blk.putAt (Blk.putAt (Blk.putAt HX3.out 10 _ rfl) 11 _ rfl) 12 _ rfl)
  have HR4 := Lib.hid (show Blk (((w3.setCell ⟨w.heap.size + 1, 10, none⟩ (.int .i64 (1 + z2))).setCell ⟨w.heap.size + 1, 11, none⟩ (.int .i64 z3)).setCell ⟨w.heap.size + 1, 12, none⟩ (.int .i64 z4)) w.heap.size 31 _ from ((HR3.out.far (by simp) _).far (by simp) _).far (by simp) _)
  have HB4 := Lib.hid (show Below w.heap.size w (((w3.setCell ⟨w.heap.size + 1, 10, none⟩ (.int .i64 (1 + z2))).setCell ⟨w.heap.size + 1, 11, none⟩ (.int .i64 z3)).setCell ⟨w.heap.size + 1, 12, none⟩ (.int .i64 z4)) from ((HB3.out.setCell (by simp) _).setCell (by simp) _).setCell (by simp) _)
  clear x0 x1 x2 x3 x4 x5 x6 x7 x8 x9 x10 x11 x12 x13 hfr HX3 HR3 HB3
  generalize ((w3.setCell ⟨w.heap.size + 1, 10, none⟩ (.int .i64 (1 + z2))).setCell ⟨w.heap.size + 1, 11, none⟩ (.int .i64 z3)).setCell ⟨w.heap.size + 1, 12, none⟩ (.int .i64 z4) = w4 at *
  obtain ⟨x0, x1, x2, x3, x4, x5, x6, x7, x8, x9, x10, x11, x12, x13⟩ := Blk.cells14 HX4.out
  obtain ⟨y0, y1, y2, y3, y4, y5, y6, y7, y8, y9, y10, y11, y12, y13⟩ := Blk.cells14 HR4.out
  have hfr := HR4.out.frozen
  go_wp2_with fail
  obtain ⟨W, hW, hA, hBB, -, -⟩ := set_one14 HR4.out rfl HB4.out (Nat.le_refl _) (.int .i64 2) (.int .i64 z0) (.bool (z1 == 1)) (.int .i64 0) (.int .i64 0) (.int .i64 0) (.int .i64 0) (.int .i64 0) (.int .i64 0) (.slice none 0 0) (.int .i64 (1 + z2)) (.int .i64 z3) (.int .i64 z4) (.string ⟨#[]⟩)
  rw [hW]
  exact of_ret (x := ⟨2, z0, z1 == 1, 0, 0, 0, 0, 0, 0, [], 1 + z2, z3, z4, ⟨#[]⟩⟩) (by simp) hA (sat_ok _ HZ0.out HZ2.out HZ3.out HZ4.out) (World.ownsRow_nil _ _ _ _) hBB
end Go.Proofs.YteeekdffbcbamaaDoor
