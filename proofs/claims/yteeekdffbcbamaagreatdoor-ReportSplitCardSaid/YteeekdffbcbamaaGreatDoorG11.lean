/-
  WALKS: a number below a bound, a number of a list (package skyfixkit).
-/
import Derived.Test.YteeekdffbcbamaaGreatDoorG6
import Derived.Test.YteeekdffbcbamaaGreatDoorFix
import Derived.Deep.RegionWith
import Derived.IntWalk
namespace Go.Proofs.YteeekdffbcbamaaGreatDoor
open Go.RowKit

/-- A number of a list, 0 beyond. -/
def nthZ (l : List Int) (i : Int) : Int := if i < 0 then 0 else l.getD i.toNat 0
theorem emod_tmod {n k : Int} (hk : 1 ≤ k) : n % k = if n.tmod k < 0 then n.tmod k + k else n.tmod k := by
  have h1 := Int.emod_nonneg n (show k ≠ 0 by omega)
  have h2 := Int.emod_lt_of_pos n (show 0 < k by omega)
  by_cases hn : 0 ≤ n
  · have : n.tmod k = n % k := Int.tmod_eq_emod_of_nonneg hn
    rw [this, if_neg (by omega)]
  · have h3 : n.tmod k = -((-n).tmod k) := by rw [Int.neg_tmod, Int.neg_neg]
    have h4 : (-n).tmod k = (-n) % k := Int.tmod_eq_emod_of_nonneg (by omega)
    have h5 := Int.emod_nonneg (-n) (show k ≠ 0 by omega)
    have h6 := Int.emod_lt_of_pos (-n) (show 0 < k by omega)
    have e1 := Int.emod_add_mul_ediv n k
    have e2 := Int.emod_add_mul_ediv (-n) k
    have hq : n % k + (-n) % k = k * (-(n / k) - (-n) / k) := by rw [Int.mul_sub, Int.mul_neg]; omega
    rw [h3, h4]
    generalize n % k = a at *
    generalize (-n) % k = b at *
    generalize -(n / k) - (-n) / k = q at *
    have hq0 : 0 ≤ q := by
      by_cases hq0 : 0 ≤ q
      · exact hq0
      · have : k * q ≤ k * (-1) := Int.mul_le_mul_of_nonneg_left (by omega) (by omega)
        omega
    have hq2 : q ≤ 1 := by
      by_cases hq2 : q ≤ 1
      · exact hq2
      · have : k * 2 ≤ k * q := Int.mul_le_mul_of_nonneg_left (by omega) (by omega)
        omega
    have hq3 : q = 0 ∨ q = 1 := by omega
    rcases hq3 with rfl | rfl
    · rw [Int.mul_zero] at hq
      rw [if_neg (by omega)]; omega
    · rw [Int.mul_one] at hq
      by_cases hb : b = 0
      · omega
      · rw [if_pos (by omega)]; omega
theorem tmod_lt {n k : Int} (hk : 1 ≤ k) : -k ≤ n.tmod k ∧ n.tmod k < k := by
  have := emod_tmod (n := n) hk
  have h1 := Int.emod_nonneg n (show k ≠ 0 by omega)
  have h2 := Int.emod_lt_of_pos n (show 0 < k by omega)
  by_cases h : n.tmod k < 0
  · rw [if_pos h] at this
    rw [this] at h1 h2
    omega
  · rw [if_neg h] at this
    rw [this] at h1 h2
    omega
set_option maxHeartbeats 1000000 in
theorem below_any (n k : Int) (w : World) (hk : 1 ≤ k) (hk1 : k ≤ 9223372036854775807) :
    Calls Tryz.prog 7 #[.int .i64 n, .int .i64 k] w fun e w' => e = .returned (.int .i64 (n % k)) ∧ w = w' := by
  have he := emod_tmod (n := n) hk
  obtain ⟨hl1, hl2⟩ := tmod_lt (n := n) hk
  rw [he]
  clear he
  have hk' : ¬ k < 1 := by omega
  have hk0 : ¬ k = 0 := by omega
  have hkm : ¬ k = -1 := by omega
  by_cases hn : n.tmod k < 0
  · rw [if_pos hn]
    go_enter Tryz.func7, Tryz.ntmps7
    go_wp2_with fail
    go_ret
    exact ⟨rfl, rfl⟩
  · rw [if_neg hn]
    go_enter Tryz.func7, Tryz.ntmps7
    go_wp2_with fail
    go_ret
    exact ⟨rfl, rfl⟩
theorem nthZ_in {l : List Int} (h : ∀ z ∈ l, -9223372036854775808 ≤ z ∧ z ≤ 9223372036854775807) (i : Int) : -9223372036854775808 ≤ nthZ l i ∧ nthZ l i ≤ 9223372036854775807 := by
  unfold nthZ
  split
  · omega
  · by_cases hi : i.toNat < l.length
    · rw [List.getD_eq_getElem?_getD, List.getElem?_eq_getElem hi]
      exact h _ (List.getElem_mem hi)
    · rw [List.getD_eq_getElem?_getD, List.getElem?_eq_none (by omega)]
      decide
set_option maxHeartbeats 1000000 in
theorem nth_any (l : List Int) (A : Option Addr) (n c : Nat) (i : Int) (w : World) (hn : l.length = n) (h : PrL w A l) :
    Calls Tryz.prog 25 #[.slice A n c, .int .i64 i] w fun e w' => e = .returned (.int .i64 (nthZ l i)) ∧ w = w' := by
  unfold nthZ
  by_cases h0 : i < 0
  · rw [if_pos h0]
    go_enter Tryz.func25, Tryz.ntmps25
    go_wp2_with fail
    go_ret
    exact ⟨rfl, rfl⟩
  · rw [if_neg h0]
    by_cases h1 : (n : Int) ≤ i
    · rw [List.getD_eq_getElem?_getD, List.getElem?_eq_none (by omega)]
      go_enter Tryz.func25, Tryz.ntmps25
      go_wp2_with fail
      go_ret
      exact ⟨rfl, rfl⟩
    · obtain ⟨k, rfl⟩ : ∃ k : Nat, i = k := ⟨i.toNat, by omega⟩
      have hk : k < l.length := by omega
      rw [List.getD_eq_getElem?_getD, Int.toNat_natCast, List.getElem?_eq_getElem hk]
      obtain ⟨a, rfl, g⟩ := h k hk
      show Calls Tryz.prog _ _ w fun e w' => e = .returned (.int .i64 l[k]) ∧ w = w'
      generalize l[k] = z at *
      have HN := Lib.hid hn; clear hn
      have hlt : (k : Int) < n := by have := HN.out; omega
      have hlt2 : k < n := by omega
      clear h hk
      go_enter Tryz.func25, Tryz.ntmps25
      go_wp2_with fail
      go_ret
      exact ⟨rfl, rfl⟩
end Go.Proofs.YteeekdffbcbamaaGreatDoor
/-
  WALKS: a valid sentence that numbers select (skyfixlaw41.of): a channel.
-/
namespace Go.Proofs.YteeekdffbcbamaaGreatDoor
open Go.RowKit

theorem Blk.putAt {w : World} {g : Nat} {t : TypeId} {cs cs' : Array Value} (h : Blk w g t cs) (i : Nat) (u : Value) (he : cs.setIfInBounds i u = cs') : Blk (w.setCell ⟨g, i, none⟩ u) g t cs' := he ▸ h.set_ i u
def OfPost (w : World) (en : Ending) (w' : World) : Prop :=
  ∃ (x : Plain.Sn) (v : Value), en = .returned (.agg (snCells x v)) ∧ Plain.checkE x = 0 ∧ w'.ownsRow w.heap.size 3 1 v x.prns.length (x.prns.map (Value.int .i64)) ∧ Below w.heap.size w w'
/-- A sentence is stored whole. -/
theorem set_one14 {w w0 : World} {B g : Nat} {t : TypeId} {cs : Array Value} (h1 : Blk w g t cs) (hs : cs.size = 14) (hB : Below B w0 w) (hg : B ≤ g) (v0 v1 v2 v3 v4 v5 v6 v7 v8 v9 v10 v11 v12 v13 : Value) :
    ∃ W : World, (((((((((((((w.setCell ⟨g, 0, none⟩ v0).setCell ⟨g, 1, none⟩ v1).setCell ⟨g, 2, none⟩ v2).setCell ⟨g, 3, none⟩ v3).setCell ⟨g, 4, none⟩ v4).setCell ⟨g, 5, none⟩ v5).setCell ⟨g, 6, none⟩ v6).setCell ⟨g, 7, none⟩ v7).setCell ⟨g, 8, none⟩ v8).setCell ⟨g, 9, none⟩ v9).setCell ⟨g, 10, none⟩ v10).setCell ⟨g, 11, none⟩ v11).setCell ⟨g, 12, none⟩ v12).setCell ⟨g, 13, none⟩ v13 = W ∧ Blk W g t #[v0, v1, v2, v3, v4, v5, v6, v7, v8, v9, v10, v11, v12, v13] ∧ Below B w0 W ∧ W.heap.size = w.heap.size ∧ ∀ k, k ≠ g → W.heap[k]? = w.heap[k]? := by
  obtain ⟨c0, c1, c2, c3, c4, c5, c6, c7, c8, c9, c10, c11, c12, c13, rfl⟩ := size14 hs
  refine ⟨_, rfl, ?_, ?_, ?_, ?_⟩
  · have := ((((((((((((((h1.set_ 0 v0).set_ 1 v1).set_ 2 v2).set_ 3 v3).set_ 4 v4).set_ 5 v5).set_ 6 v6).set_ 7 v7).set_ 8 v8).set_ 9 v9).set_ 10 v10).set_ 11 v11).set_ 12 v12).set_ 13 v13)
    rw [set14_eq] at this
    exact this
  · exact ((((((((((((((hB.setCell (p := ⟨g, 0, none⟩) hg v0).setCell (p := ⟨g, 1, none⟩) hg v1).setCell (p := ⟨g, 2, none⟩) hg v2).setCell (p := ⟨g, 3, none⟩) hg v3).setCell (p := ⟨g, 4, none⟩) hg v4).setCell (p := ⟨g, 5, none⟩) hg v5).setCell (p := ⟨g, 6, none⟩) hg v6).setCell (p := ⟨g, 7, none⟩) hg v7).setCell (p := ⟨g, 8, none⟩) hg v8).setCell (p := ⟨g, 9, none⟩) hg v9).setCell (p := ⟨g, 10, none⟩) hg v10).setCell (p := ⟨g, 11, none⟩) hg v11).setCell (p := ⟨g, 12, none⟩) hg v12).setCell (p := ⟨g, 13, none⟩) hg v13)
  · simp [World.setCell]
  · intro k k1
    rw [Below.heap_setCell _ _ _ k k1, Below.heap_setCell _ _ _ k k1, Below.heap_setCell _ _ _ k k1, Below.heap_setCell _ _ _ k k1, Below.heap_setCell _ _ _ k k1, Below.heap_setCell _ _ _ k k1, Below.heap_setCell _ _ _ k k1, Below.heap_setCell _ _ _ k k1, Below.heap_setCell _ _ _ k k1, Below.heap_setCell _ _ _ k k1, Below.heap_setCell _ _ _ k k1, Below.heap_setCell _ _ _ k k1, Below.heap_setCell _ _ _ k k1, Below.heap_setCell _ _ _ k k1]
theorem own_heap {W W' : World} {base : Nat} {e : TypeId} {size n : Nat} {v : Value} {xs : List Value} (h : W.ownsRow base e size v n xs) (hh : ∀ g, v.ownBlock = some g → W'.heap[g]? = W.heap[g]?) : W'.ownsRow base e size v n xs := by
  refine ⟨h.1, ?_⟩
  rcases h.2 with hl | ⟨g', cap, cur, rfl, hr⟩
  · exact Or.inl hl
  · have hg := hh g' (by simp [Value.ownBlock])
    refine Or.inr ⟨g', cap, cur, rfl, ?_⟩
    rw [hg]
    exact hr
/-- The return of a sentence. -/
theorem of_ret {w W : World} {tmps : Array Value} {g : Nat} {x : Plain.Sn} {v : Value} (h4 : tmps[4]?.getD undef = .pointer (some ⟨g, 0, none⟩))
    (hA : Blk W g 28 (snCells x v)) (hx : Plain.checkE x = 0) (ho : W.ownsRow w.heap.size 3 1 v x.prns.length (x.prns.map (Value.int .i64))) (hB : Below w.heap.size w W) :
    bodyPost Tryz.prog Tryz.f8 (OfPost w) .ret { tmps := tmps, defers := [] } W := by
  obtain ⟨k0, k1, k2, k3, k4, k5, k6, k7, k8, k9, k10, k11, k12, k13⟩ := Blk.cells14 hA
  exact bodyPost_ret (v := .agg (snCells x v)) (by simp [results, Tryz.results8, go_sem, snCells, h4, k0, k1, k2, k3, k4, k5, k6, k7, k8, k9, k10, k11, k12, k13]) rfl ⟨x, v, rfl, hx, ho, hB⟩
theorem sat_ok {z0 z2 z3 z4 : Int} (b : Bool) (h0 : 0 ≤ z0 ∧ z0 < 604800000) (h2 : 0 ≤ z2 ∧ z2 < 63) (h3 : 0 ≤ z3 ∧ z3 < 8192) (h4 : 0 ≤ z4 ∧ z4 < 1000000000000000001) : Plain.checkE ⟨2, z0, b, 0, 0, 0, 0, 0, 0, [], 1 + z2, z3, z4, ⟨#[]⟩⟩ = 0 := by
  have ht : Plain.inR z0 0 604799999 = true := by unfold Plain.inR; simp; omega
  rw [(Plain.checkE_2 (x := ⟨2, z0, b, 0, 0, 0, 0, 0, 0, [], 1 + z2, z3, z4, ⟨#[]⟩⟩) rfl ht).1 ⟨rfl, rfl, rfl, rfl, rfl, rfl, rfl, rfl⟩]
  unfold Plain.chanE Plain.inR
  rw [if_neg]
  simp
  omega
set_option maxRecDepth 100000 in
set_option maxHeartbeats 4000000 in
theorem of_sat (l : List Int) (A : Option Addr) (n c : Nat) (kind : Int) (w : World) (hn : l.length = n) (hN : PrL w A l) (hk : kind % 3 = 1) :
    Calls Tryz.prog 8 #[.slice A n c, .int .i64 kind] w (OfPost w) := by
  have HNth := Lib.hid (fun W i (h : PrL W A l) => nth_any l A n c i W hn h)
  have HBel := Lib.hid (fun n k W h1 h2 => below_any n k W h1 h2)
  have HN := Lib.hid hN; clear hN
  have HK := Lib.hid hk; clear hk
  go_enter Tryz.func8, Tryz.ntmps8
  go_wp2_with fail
  refine (HBel.out _ _ _ (by omega) (by omega)).mono ?_
  rintro en w1 ⟨rfl, rfl⟩
  rw [HK.out]
  go_wp2_with fail
  refine (HNth.out _ _ (HN.out.below ((Below.refl _ _).alloc (Nat.le_refl _) _) (Nat.le_refl _))).mono ?_
  rintro en w1 ⟨rfl, rfl⟩
  go_wp2_with fail
  refine (HBel.out _ _ _ (by omega) (by omega)).mono ?_
  rintro en w1 ⟨rfl, rfl⟩
  obtain ⟨z0, hz0⟩ : ∃ z0, nthZ l 0 % 604800000 = z0 := ⟨_, rfl⟩
  have HZ0 := Lib.hid (show 0 ≤ z0 ∧ z0 < 604800000 by omega)
  rw [hz0]
  clear hz0
  go_upto_region 23 with (fail)
  obtain ⟨w2, hw2⟩ : ∃ w2, (w.alloc (.cells #[.int .i64 0, .int .i64 0, .bool false, .int .i64 0, .int .i64 0, .int .i64 0, .int .i64 0, .int .i64 0, .int .i64 0, .slice none 0 0, .int .i64 0, .int .i64 0, .int .i64 0, .string ⟨#[]⟩] 28)).alloc (.cells #[.int .i64 2, .int .i64 z0, .bool false, .int .i64 0, .int .i64 0, .int .i64 0, .int .i64 0, .int .i64 0, .int .i64 0, .slice none 0 0, .int .i64 0, .int .i64 0, .int .i64 0, .string ⟨#[]⟩] 28) = w2 := ⟨_, rfl⟩
  have HX := Lib.hid (show Blk w2 (w.heap.size + 1) 28 _ from hw2 ▸ Blk.new_at (by simp))
  have HR := Lib.hid (show Blk w2 w.heap.size 28 _ from hw2 ▸ (Blk.new_at rfl).alloc _)
  have HB := Lib.hid (show Below w.heap.size w w2 from hw2 ▸ ((Below.refl _ _).alloc (Nat.le_refl _) _).alloc (by simp) _)
  rw [hw2]
  clear hw2
  obtain ⟨x0, x1, x2, x3, x4, x5, x6, x7, x8, x9, x10, x11, x12, x13⟩ := Blk.cells14 HX.out
  have hfr := HX.out.frozen
  go_wp2_with fail
  refine (HNth.out _ _ (HN.out.below HB.out (Nat.le_refl _))).mono ?_
  rintro en w1 ⟨rfl, rfl⟩
  go_wp2_with fail
  refine (HBel.out _ _ _ (by omega) (by omega)).mono ?_
  rintro en w1 ⟨rfl, rfl⟩
  generalize nthZ l 1 % 2 = z1
  go_upto_region 24 with (fail)
  have HX3 := Lib.hid (show Blk (w2.setCell ⟨w.heap.size + 1, 2, none⟩ (.bool (z1 == 1))) (w.heap.size + 1) 28 _ from Blk.putAt HX.out 2 _ rfl)
  have HR3 := Lib.hid (show Blk (w2.setCell ⟨w.heap.size + 1, 2, none⟩ (.bool (z1 == 1))) w.heap.size 28 _ from HR.out.far (by simp) _)
  have HB3 := Lib.hid (show Below w.heap.size w (w2.setCell ⟨w.heap.size + 1, 2, none⟩ (.bool (z1 == 1))) from HB.out.setCell (by simp) _)
  clear x0 x1 x2 x3 x4 x5 x6 x7 x8 x9 x10 x11 x12 x13 hfr HX HR HB
  generalize w2.setCell ⟨w.heap.size + 1, 2, none⟩ (.bool (z1 == 1)) = w3 at *
  obtain ⟨x0, x1, x2, x3, x4, x5, x6, x7, x8, x9, x10, x11, x12, x13⟩ := Blk.cells14 HX3.out
  have hfr := HX3.out.frozen
  go_wp2_with fail
  refine (HNth.out _ _ (HN.out.below HB3.out (Nat.le_refl _))).mono ?_
  rintro en w1 ⟨rfl, rfl⟩
  go_wp2_with fail
  refine (HBel.out _ _ _ (by omega) (by omega)).mono ?_
  rintro en w1 ⟨rfl, rfl⟩
  obtain ⟨z2, hz2⟩ : ∃ z, nthZ l 2 % 63 = z := ⟨_, rfl⟩
  have HZ2 := Lib.hid (show 0 ≤ z2 ∧ z2 < 63 by omega)
  rw [hz2]
  clear hz2
  have hz2 := HZ2.out
  go_wp2_with fail
  refine (HNth.out _ _ (HN.out.below HB3.out (Nat.le_refl _))).mono ?_
  rintro en w1 ⟨rfl, rfl⟩
  go_wp2_with fail
  refine (HBel.out _ _ _ (by omega) (by omega)).mono ?_
  rintro en w1 ⟨rfl, rfl⟩
  obtain ⟨z3, hz3⟩ : ∃ z, nthZ l 3 % 8192 = z := ⟨_, rfl⟩
  have HZ3 := Lib.hid (show 0 ≤ z3 ∧ z3 < 8192 by omega)
  rw [hz3]
  clear hz3
  go_wp2_with fail
  refine (HNth.out _ _ (HN.out.below HB3.out (Nat.le_refl _))).mono ?_
  rintro en w1 ⟨rfl, rfl⟩
  go_wp2_with fail
  refine (HBel.out _ _ _ (by omega) (by omega)).mono ?_
  rintro en w1 ⟨rfl, rfl⟩
  obtain ⟨z4, hz4⟩ : ∃ z, nthZ l 4 % 1000000000000000001 = z := ⟨_, rfl⟩
  have HZ4 := Lib.hid (show 0 ≤ z4 ∧ z4 < 1000000000000000001 by omega)
  rw [hz4]
  clear hz4
  go_upto_region 25 with (fail)
  have HX4 := Lib.hid (show Blk (((w3.setCell ⟨w.heap.size + 1, 10, none⟩ (.int .i64 (1 + z2))).setCell ⟨w.heap.size + 1, 11, none⟩ (.int .i64 z3)).setCell ⟨w.heap.size + 1, 12, none⟩ (.int .i64 z4)) (w.heap.size + 1) 28 _ from Blk.putAt (Blk.putAt (Blk.putAt HX3.out 10 _ rfl) 11 _ rfl) 12 _ rfl)
  have HR4 := Lib.hid (show Blk (((w3.setCell ⟨w.heap.size + 1, 10, none⟩ (.int .i64 (1 + z2))).setCell ⟨w.heap.size + 1, 11, none⟩ (.int .i64 z3)).setCell ⟨w.heap.size + 1, 12, none⟩ (.int .i64 z4)) w.heap.size 28 _ from ((HR3.out.far (by simp) _).far (by simp) _).far (by simp) _)
  have HB4 := Lib.hid (show Below w.heap.size w (((w3.setCell ⟨w.heap.size + 1, 10, none⟩ (.int .i64 (1 + z2))).setCell ⟨w.heap.size + 1, 11, none⟩ (.int .i64 z3)).setCell ⟨w.heap.size + 1, 12, none⟩ (.int .i64 z4)) from ((HB3.out.setCell (by simp) _).setCell (by simp) _).setCell (by simp) _)
  clear x0 x1 x2 x3 x4 x5 x6 x7 x8 x9 x10 x11 x12 x13 hfr HX3 HR3 HB3
  generalize ((w3.setCell ⟨w.heap.size + 1, 10, none⟩ (.int .i64 (1 + z2))).setCell ⟨w.heap.size + 1, 11, none⟩ (.int .i64 z3)).setCell ⟨w.heap.size + 1, 12, none⟩ (.int .i64 z4) = w4 at *
  obtain ⟨x0, x1, x2, x3, x4, x5, x6, x7, x8, x9, x10, x11, x12, x13⟩ := Blk.cells14 HX4.out
  obtain ⟨y0, y1, y2, y3, y4, y5, y6, y7, y8, y9, y10, y11, y12, y13⟩ := Blk.cells14 HR4.out
  have hfr := HR4.out.frozen
  go_wp2_with fail
  obtain ⟨W, hW, hA, hBB, -, -⟩ := set_one14 HR4.out rfl HB4.out (Nat.le_refl _) (.int .i64 2) (.int .i64 z0) (.bool (z1 == 1)) (.int .i64 0) (.int .i64 0) (.int .i64 0) (.int .i64 0) (.int .i64 0) (.int .i64 0) (.slice none 0 0) (.int .i64 (1 + z2)) (.int .i64 z3) (.int .i64 z4) (.string ⟨#[]⟩)
  rw [hW]
  exact of_ret (x := ⟨2, z0, z1 == 1, 0, 0, 0, 0, 0, 0, [], 1 + z2, z3, z4, ⟨#[]⟩⟩) (by simp) hA (sat_ok _ HZ0.out HZ2.out HZ3.out HZ4.out) (World.ownsRow_nil _ _ _ _) hBB
end Go.Proofs.YteeekdffbcbamaaGreatDoor
/-
  WALKS: a valid sentence that numbers select (skyfixlaw41.of): a fix.
-/
namespace Go.Proofs.YteeekdffbcbamaaGreatDoor
open Go.RowKit

/-- Where the numbers of a fix lie. -/
def fixCs (z0 : Int) (b : Bool) (p0 p1 p2 l0 l1 l2 : Int) (v : Value) : Array Value := #[.int .i64 1, .int .i64 z0, .bool b, .int .i64 p0, .int .i64 p1, .int .i64 p2, .int .i64 l0, .int .i64 l1, .int .i64 l2, v, .int .i64 0, .int .i64 0, .int .i64 0, .string ⟨#[]⟩]
def posR (p : Int) : Prop := -10000000000000 ≤ p ∧ p ≤ 10000000000000
def levR (p : Int) : Prop := 0 ≤ p ∧ p ≤ 10000000000000
theorem wrap_pos {z : Int} (h : 0 ≤ z ∧ z < 20000000000001) : posR (IntKind.i64.wrap (z - 10000000000000)) := by
  rw [IntWalk.i64_in _ (by omega)]
  unfold posR
  omega
/-- A fix that is being made. -/
def FxR (w wr : World) (z0 : Int) (b : Bool) : Prop :=
  ∃ p0 p1 p2 l0 l1 l2, Blk wr (w.heap.size + 1) 28 (fixCs z0 b p0 p1 p2 l0 l1 l2 (.slice none 0 0)) ∧ Blk wr w.heap.size 28 zeroX ∧ Below w.heap.size w wr ∧ (posR p0 ∧ posR p1 ∧ posR p2) ∧ (levR l0 ∧ levR l1 ∧ levR l2)
/-- The last of the numbers, a if none. -/
def lastF (a : Int) (L : List Int) : Int := L.foldl (fun _ p => p) a
theorem prnsE_snoc {z : Int} (h1 : 1 ≤ z) (h2 : z ≤ 63) : ∀ (L : List Int) (a : Int), Plain.prnsE a L = 0 → lastF a L < z → Plain.prnsE a (L ++ [z]) = 0
  | [], a, _, h => by
    have hl : a < z := h
    have hr : Plain.inR z 1 63 = true := by unfold Plain.inR; simp; omega
    show (if Plain.inR z 1 63 = false then 2 else if z ≤ a then 9 else 0 : Int) = 0
    rw [hr, if_neg (by decide), if_neg (by omega)]
  | p :: r, a, h, hl => by
    unfold Plain.prnsE at h
    show (if Plain.inR p 1 63 = false then 2 else if p ≤ a then 9 else Plain.prnsE p (r ++ [z]) : Int) = 0
    by_cases h3 : Plain.inR p 1 63 = false
    · rw [if_pos h3] at h; cases h
    · rw [if_neg h3] at h ⊢
      by_cases h4 : p ≤ a
      · rw [if_pos h4] at h; cases h
      · rw [if_neg h4] at h ⊢
        exact prnsE_snoc h1 h2 r p h hl
theorem own_less {w : World} {base base' : Nat} {e : TypeId} {size n : Nat} {v : Value} {xs : List Value} (h : w.ownsRow base e size v n xs) (hb : base' ≤ base) : w.ownsRow base' e size v n xs := by
  refine ⟨h.1, ?_⟩
  rcases h.2 with hl | ⟨g', cap, cur, rfl, hge, hr⟩
  · exact Or.inl hl
  · exact Or.inr ⟨g', cap, cur, rfl, Nat.le_trans hb hge, hr⟩
theorem own_formQ {w : World} {base : Nat} {e : TypeId} {size n : Nat} {v : Value} {xs : List Value} (h : w.ownsRow base e size v n xs) : ∃ A c, v = .slice A n c := by
  rcases h.2 with ⟨rfl, rfl⟩ | ⟨g', cap, cur, rfl, _⟩
  · exact ⟨_, _, rfl⟩
  · exact ⟨_, _, rfl⟩
/-- A fix whose numbers of satellites are being made. -/
def PrQ (w wr : World) (z0 : Int) (b : Bool) (p0 p1 p2 l0 l1 l2 : Int) (L : List Int) : Prop :=
  ∃ v, Blk wr (w.heap.size + 1) 28 (fixCs z0 b p0 p1 p2 l0 l1 l2 v) ∧ Blk wr w.heap.size 28 zeroX ∧ Below w.heap.size w wr ∧ wr.ownsRow (w.heap.size + 2) 3 1 v L.length (L.map (Value.int .i64)) ∧
    Plain.prnsE 0 L = 0 ∧ 0 ≤ lastF 0 L ∧ lastF 0 L ≤ 3 * L.length
theorem PrQ.next {w wr w9 : World} {z0 : Int} {b : Bool} {p0 p1 p2 l0 l1 l2 z : Int} {L : List Int} {v v' : Value} {o : Obj} (hX : Blk wr (w.heap.size + 1) 28 (fixCs z0 b p0 p1 p2 l0 l1 l2 v)) (hR : Blk wr w.heap.size 28 zeroX) (hB : Below w.heap.size w wr)
    (ho : wr.ownsRow (w.heap.size + 2) 3 1 v L.length (L.map (Value.int .i64))) (hg : (wr.alloc o).grownBy w9 v.ownBlock) (hown : w9.ownsRow (w.heap.size + 2) 3 1 v' (L.length + 1) (L.map (Value.int .i64) ++ [.int .i64 z]))
    (hE : Plain.prnsE 0 L = 0) (h0 : 0 ≤ lastF 0 L) (h3 : lastF 0 L ≤ 3 * L.length) (hL : L.length < 16) (hz : lastF 0 L + 1 ≤ z) (hz3 : z ≤ lastF 0 L + 3) : PrQ w (w9.setCell ⟨w.heap.size + 1, 9, none⟩ v') z0 b p0 p1 p2 l0 l1 l2 (L ++ [z]) := by
  have hlt := hX.lt
  have hn1 : some (w.heap.size + 1) ≠ v.ownBlock := Ne.symm (own_ne ho (by omega))
  have hn0 : some w.heap.size ≠ v.ownBlock := Ne.symm (own_ne ho (by omega))
  have hlF : lastF 0 (L ++ [z]) = z := by unfold lastF; rw [List.foldl_append]; rfl
  refine ⟨v', Blk.putAt (Blk.grown (hX.alloc o) hg hn1) 9 _ rfl, (Blk.grown (hR.alloc o) hg hn0).far (by simp) _, ((hB.alloc hB.size o).grown hg (by have := hB.size; simp; omega) (fun g e => by have := own_ge ho e; omega)).setCell (by simp) _, ?_, prnsE_snoc (by omega) (by omega) L 0 hE (by omega), by rw [hlF]; omega, by rw [hlF, List.length_append]; simp; omega⟩
  rw [List.length_append, List.map_append]
  exact ownsRow_setCell_below hown (by show w.heap.size + 1 < w.heap.size + 2; omega) _
theorem fix_ok {z0 : Int} {b : Bool} {p0 p1 p2 l0 l1 l2 : Int} {L : List Int} (h0 : 0 ≤ z0 ∧ z0 < 604800000) (hP : posR p0 ∧ posR p1 ∧ posR p2) (hL : levR l0 ∧ levR l1 ∧ levR l2) (hE : Plain.prnsE 0 L = 0) (hl : L.length ≤ 16) : Plain.checkE ⟨1, z0, b, p0, p1, p2, l0, l1, l2, L, 0, 0, 0, ⟨#[]⟩⟩ = 0 := by
  have ht : Plain.inR z0 0 604799999 = true := by unfold Plain.inR; simp; omega
  rw [(Plain.checkE_1 (x := ⟨1, z0, b, p0, p1, p2, l0, l1, l2, L, 0, 0, 0, ⟨#[]⟩⟩) rfl ht).1 ⟨rfl, rfl, rfl, rfl⟩]
  unfold posR at hP
  unfold levR at hL
  unfold Plain.fixE
  have hv : Plain.levelB ⟨1, z0, b, p0, p1, p2, l0, l1, l2, L, 0, 0, 0, ⟨#[]⟩⟩ = true := by
    unfold Plain.levelB Plain.levB Plain.inR Plain.pos Plain.lev
    simp
    omega
  rw [hv, if_neg (by decide)]
  show (if 16 < L.length then (4 : Int) else Plain.prnsE 0 L) = 0
  rw [if_neg (by omega), hE]
theorem snoc_len {L : List Int} {z m : Int} {k : Nat} (h : L.length = k) (hm : (k : Int) + 1 ≤ m) : ((L ++ [z]).length : Int) ≤ m := by rw [List.length_append, h]; simp; omega
theorem snoc_int {L : List Int} {z : Int} {k : Nat} (h : L.length = k) : Value.int .i64 ((k : Int) + 1) = Value.int .i64 ((L ++ [z]).length : Int) := by rw [List.length_append, h]; rfl
theorem snoc_last (L : List Int) (z : Int) : Value.int .i64 z = Value.int .i64 (lastF 0 (L ++ [z])) := by unfold lastF; rw [List.foldl_append]; rfl
theorem fix_put {w wr : World} {z0 : Int} {b : Bool} {p0 p1 p2 l0 l1 l2 p q : Int} {k : Nat} (hk : k < 3) (hX : Blk wr (w.heap.size + 1) 28 (fixCs z0 b p0 p1 p2 l0 l1 l2 (.slice none 0 0))) (hR : Blk wr w.heap.size 28 zeroX) (hB : Below w.heap.size w wr)
    (hP : posR p0 ∧ posR p1 ∧ posR p2) (hL : levR l0 ∧ levR l1 ∧ levR l2) (hp : posR p) (hq : levR q) :
    FxR w ((wr.setCell ⟨w.heap.size + 1, 3 + k, none⟩ (.int .i64 p)).setCell ⟨w.heap.size + 1, 6 + k, none⟩ (.int .i64 q)).drew z0 b := by
  have hB2 : Below w.heap.size w ((wr.setCell ⟨w.heap.size + 1, 3 + k, none⟩ (.int .i64 p)).setCell ⟨w.heap.size + 1, 6 + k, none⟩ (.int .i64 q)).drew := Below.drew ((hB.setCell (by simp) _).setCell (by simp) _)
  have hR2 : Blk ((wr.setCell ⟨w.heap.size + 1, 3 + k, none⟩ (.int .i64 p)).setCell ⟨w.heap.size + 1, 6 + k, none⟩ (.int .i64 q)).drew w.heap.size 28 zeroX := Blk.drew ((hR.far (by simp) _).far (by simp) _)
  have h3 : k = 0 ∨ k = 1 ∨ k = 2 := by omega
  rcases h3 with rfl | rfl | rfl
  · exact ⟨p, p1, p2, q, l1, l2, Blk.drew (Blk.putAt (Blk.putAt hX 3 _ rfl) 6 _ rfl), hR2, hB2, ⟨hp, hP.2⟩, ⟨hq, hL.2⟩⟩
  · exact ⟨p0, p, p2, l0, q, l2, Blk.drew (Blk.putAt (Blk.putAt hX 4 _ rfl) 7 _ rfl), hR2, hB2, ⟨hP.1, hp, hP.2.2⟩, ⟨hL.1, hq, hL.2.2⟩⟩
  · exact ⟨p0, p1, p, l0, l1, q, Blk.drew (Blk.putAt (Blk.putAt hX 5 _ rfl) 8 _ rfl), hR2, hB2, ⟨hP.1, hP.2.1, hp⟩, ⟨hL.1, hL.2.1, hq⟩⟩
set_option maxRecDepth 100000 in
set_option maxHeartbeats 4000000 in
theorem of_fix (l : List Int) (A : Option Addr) (n c : Nat) (kind : Int) (w : World) (hn : l.length = n) (hN : PrL w A l) (hk : kind % 3 = 0) :
    Calls Tryz.prog 8 #[.slice A n c, .int .i64 kind] w (OfPost w) := by
  have HNth := Lib.hid (fun W i (h : PrL W A l) => nth_any l A n c i W hn h)
  have HBel := Lib.hid (fun n k W h1 h2 => below_any n k W h1 h2)
  have HN := Lib.hid hN; clear hN
  have HK := Lib.hid hk; clear hk
  go_enter Tryz.func8, Tryz.ntmps8
  go_wp2_with fail
  refine (HBel.out _ _ _ (by omega) (by omega)).mono ?_
  rintro en w1 ⟨rfl, rfl⟩
  rw [HK.out]
  go_wp2_with fail
  refine (HNth.out _ _ (HN.out.below ((Below.refl _ _).alloc (Nat.le_refl _) _) (Nat.le_refl _))).mono ?_
  rintro en w1 ⟨rfl, rfl⟩
  go_wp2_with fail
  refine (HBel.out _ _ _ (by omega) (by omega)).mono ?_
  rintro en w1 ⟨rfl, rfl⟩
  obtain ⟨z0, hz0⟩ : ∃ z0, nthZ l 0 % 604800000 = z0 := ⟨_, rfl⟩
  have HZ0 := Lib.hid (show 0 ≤ z0 ∧ z0 < 604800000 by omega)
  rw [hz0]
  clear hz0
  go_upto_region 11 with (fail)
  obtain ⟨w2, hw2⟩ : ∃ w2, (w.alloc (.cells #[.int .i64 0, .int .i64 0, .bool false, .int .i64 0, .int .i64 0, .int .i64 0, .int .i64 0, .int .i64 0, .int .i64 0, .slice none 0 0, .int .i64 0, .int .i64 0, .int .i64 0, .string ⟨#[]⟩] 28)).alloc (.cells #[.int .i64 1, .int .i64 z0, .bool false, .int .i64 0, .int .i64 0, .int .i64 0, .int .i64 0, .int .i64 0, .int .i64 0, .slice none 0 0, .int .i64 0, .int .i64 0, .int .i64 0, .string ⟨#[]⟩] 28) = w2 := ⟨_, rfl⟩
  have HX := Lib.hid (show Blk w2 (w.heap.size + 1) 28 _ from hw2 ▸ Blk.new_at (by simp))
  have HR := Lib.hid (show Blk w2 w.heap.size 28 _ from hw2 ▸ (Blk.new_at rfl).alloc _)
  have HB := Lib.hid (show Below w.heap.size w w2 from hw2 ▸ ((Below.refl _ _).alloc (Nat.le_refl _) _).alloc (by simp) _)
  rw [hw2]
  clear hw2
  obtain ⟨x0, x1, x2, x3, x4, x5, x6, x7, x8, x9, x10, x11, x12, x13⟩ := Blk.cells14 HX.out
  have hfr := HX.out.frozen
  go_wp2_with fail
  refine (HNth.out _ _ (HN.out.below HB.out (Nat.le_refl _))).mono ?_
  rintro en w1 ⟨rfl, rfl⟩
  go_wp2_with fail
  refine (HBel.out _ _ _ (by omega) (by omega)).mono ?_
  rintro en w1 ⟨rfl, rfl⟩
  generalize nthZ l 1 % 2 = z1
  go_upto_region 12 with (fail)
  have HX3 := Lib.hid (show Blk (w2.setCell ⟨w.heap.size + 1, 2, none⟩ (.bool (z1 == 1))) (w.heap.size + 1) 28 _ from Blk.putAt HX.out 2 _ rfl)
  have HR3 := Lib.hid (show Blk (w2.setCell ⟨w.heap.size + 1, 2, none⟩ (.bool (z1 == 1))) w.heap.size 28 _ from HR.out.far (by simp) _)
  have HB3 := Lib.hid (show Below w.heap.size w (w2.setCell ⟨w.heap.size + 1, 2, none⟩ (.bool (z1 == 1))) from HB.out.setCell (by simp) _)
  clear x0 x1 x2 x3 x4 x5 x6 x7 x8 x9 x10 x11 x12 x13 hfr HX HR HB
  generalize w2.setCell ⟨w.heap.size + 1, 2, none⟩ (.bool (z1 == 1)) = w3 at *
  have HF := Lib.hid (show FxR w w3 z0 (z1 == 1) from ⟨0, 0, 0, 0, 0, 0, HX3.out, HR3.out, HB3.out, by unfold posR; omega, by unfold levR; omega⟩)
  clear HX3 HR3 HB3
  go_wp2_with fail
  go_loopw [6] (fun i wr => ∃ k : Nat, k ≤ 3 ∧ i = .int .i64 k ∧ FxR w wr z0 (z1 == 1)) (fun i _ => 3 - (intOf i).toNat)
  case atStart => exact ⟨0, by omega, rfl, HF.out⟩
  case round =>
    obtain ⟨k, hk, rfl, hr⟩ := hrel
    obtain ⟨p0, p1, p2, l0, l1, l2, hX, hR, hB, hP, hL⟩ := hr
    have HX := Lib.hid hX; clear hX
    have HR := Lib.hid hR; clear hR
    have HB := Lib.hid hB; clear hB
    have HP := Lib.hid hP; clear hP
    have HL := Lib.hid hL; clear hL HF
    by_cases hlt : k < 3
    · have hfr := HX.out.frozen
      have hlt2 := HX.out.lt
      have hcs : ∀ j, j < 14 → ∃ v, wr.cell? ⟨w.heap.size + 1, j, none⟩ = some v := fun j hj => ⟨_, (HX.out.cell j).trans (Array.getElem?_eq_getElem (show j < 14 from hj))⟩
      obtain ⟨v3, c3⟩ := hcs (3 + k) (by omega)
      obtain ⟨v6, c6⟩ := hcs (6 + k) (by omega)
      clear hcs
      have HBD := Lib.hid (Below.drew HB.out)
      go_wp2_with fail
      go_region_with (first
        | (go_at_call 25; refine (HNth.out _ _ (HN.out.below HBD.out (Nat.le_refl _))).mono ?_; rintro en wz ⟨rfl, rfl⟩)
        | (go_at_call 7; refine (HBel.out _ _ _ ?h1 ?h2).mono ?_; (case h1 => omega); (case h2 => omega); rintro en wz ⟨rfl, rfl⟩))
      have HNX := Lib.hid (fix_put (p := IntKind.i64.wrap (nthZ l (IntKind.i64.wrap (2 + ↑k)) % 20000000000001 - 10000000000000)) (q := nthZ l (IntKind.i64.wrap (5 + ↑k)) % 10000000000001) hlt HX.out HR.out HB.out HP.out HL.out (wrap_pos (by omega)) (by unfold levR; omega))
      clear c3 c6 hfr HX HR HB HBD
      generalize ((wr.setCell ⟨w.heap.size + 1, 3 + k, none⟩ (.int .i64 (IntKind.i64.wrap (nthZ l (IntKind.i64.wrap (2 + ↑k)) % 20000000000001 - 10000000000000)))).setCell ⟨w.heap.size + 1, 6 + k, none⟩ (.int .i64 (nthZ l (IntKind.i64.wrap (5 + ↑k)) % 10000000000001))).drew = w6 at *
      go_wp2_with fail
      go_roundw
      case rel => exact ⟨k + 1, by omega, by go_num, HNX.out⟩
      case measure => simp [intOf]; omega
    · obtain rfl : k = 3 := by omega
      clear hlt hk
      obtain ⟨m, hm⟩ : ∃ m, nthZ l 8 % 17 = m := ⟨_, rfl⟩
      have HM := Lib.hid (show 0 ≤ m ∧ m < 17 by omega)
      have HME := Lib.hid hm; clear hm
      obtain ⟨w4, hw4⟩ : ∃ w4, wr = w4 := ⟨_, rfl⟩
      rw [hw4] at HX HR HB ⊢
      clear hw4
      have HQ := Lib.hid (show PrQ w w4 z0 (z1 == 1) p0 p1 p2 l0 l1 l2 [] from ⟨.slice none 0 0, HX.out, HR.out, HB.out, World.ownsRow_nil _ _ _ _, rfl, by decide, by decide⟩)
      clear HX HR HB
      have HI := Lib.hid (info_parts info3)
      go_wp2_with fail
      go_loopw [7, 8] (fun q i wr => ∃ (L : List Int), (L.length : Int) ≤ m ∧ i = .int .i64 L.length ∧ q = .int .i64 (lastF 0 L) ∧ PrQ w wr z0 (z1 == 1) p0 p1 p2 l0 l1 l2 L) (fun _ i _ => 17 - (intOf i).toNat)
      case atStart => exact ⟨[], HM.out.1, rfl, rfl, HQ.out⟩
      case round =>
        obtain ⟨L, hk, rfl, rfl, hr⟩ := hrel
        obtain ⟨v, hX, hR, hB, hO, hE, hl0, hl3⟩ := hr
        have HX := Lib.hid hX; clear hX
        have HR := Lib.hid hR; clear hR
        have HB := Lib.hid hB; clear hB
        have HO := Lib.hid hO; clear hO
        have HE := Lib.hid (And.intro hE (And.intro hl0 hl3)); clear hE hl0 hl3 HQ
        obtain ⟨k, hkL⟩ : ∃ k, L.length = k := ⟨_, rfl⟩
        obtain ⟨q, hq⟩ : ∃ q, lastF 0 L = q := ⟨_, rfl⟩
        have HKQ := Lib.hid (And.intro hkL hq)
        have hq0 : 0 ≤ q ∧ q ≤ 48 := by have := HE.out; have := HM.out; omega
        rw [hkL] at hk
        rw [hkL, hq]
        clear hkL hq
        go_wp2_with fail
        refine (HNth.out _ _ (HN.out.below HB.out (Nat.le_refl _))).mono ?_
        rintro en w1 ⟨rfl, rfl⟩
        go_wp2_with fail
        refine (HBel.out _ _ _ (by omega) (by omega)).mono ?_
        rintro en w1 ⟨rfl, rfl⟩
        rw [HME.out]
        by_cases hlt : (k : Int) < m
        · have hk16 : (k : Int) < 16 := by have := HM.out; omega
          go_wp2_with fail
          refine (HNth.out _ _ (HN.out.below HB.out (Nat.le_refl _))).mono ?_
          rintro en w1 ⟨rfl, rfl⟩
          go_wp2_with fail
          refine (HBel.out _ _ _ (by omega) (by omega)).mono ?_
          rintro en w1 ⟨rfl, rfl⟩
          generalize hz : _ % (3 : Int) = z
          have hz3 : 0 ≤ z ∧ z < 3 := by omega
          clear hz
          go_upto_region 21 with (fail)
          have hzq : lastF 0 L + 1 ≤ q + 1 + z ∧ q + 1 + z ≤ lastF 0 L + 3 := by rw [HKQ.out.2]; omega
          have HZQ := Lib.hid hzq; clear hzq
          generalize q + 1 + z = zz at *
          have hzz : 1 ≤ zz ∧ zz ≤ 63 := by have := HZQ.out; have := HKQ.out.2; omega
          clear hz3 hq0
          obtain ⟨i0, hi, hz0, hz1, hz2⟩ := HI.out
          have c9 : wr.cell? ⟨w.heap.size + 1, 9, none⟩ = some v := HX.out.cell 9
          have hlt8 := HX.out.lt
          go_wp2_with (at_builtin; refine wpList_append_own _ rfl _ _ 22 rfl (w.heap.size + 2) 3 i0 (.int .i64 0) 1 8 Tryz.underlying22 hi hz0 hz1 hz2 rfl (by decide) _ _ _ rfl (HO.out.alloc _) ⟨wr.heap.size, 0, none⟩ 1 1 [.int .i64 zz] rfl rfl ?_ ?_ ?_ ?_ ?_ ?_; rotate_left 5; intro v' w9 hown9 hg9 _; obtain ⟨g', cap', rfl⟩ := ownsRow_succ hown9; have hx9 := Blk.grown (HX.out.alloc _) hg9 (Ne.symm (own_ne HO.out (by omega))); have c10 : w9.cell? ⟨w.heap.size + 1, 9, none⟩ = some v := hx9.cell 9; have hfr := hx9.frozen; clear hx9; have HOW := Lib.hid hown9; clear hown9; have HG9 := Lib.hid hg9; clear hg9)
          rotate_left 1
          · exact cell_new_at _ _ _ _ (by simp)
          · simp [Value.oneCell']
          · have := HKQ.out.1; simp only [maxLen]; omega
          · have := HKQ.out.1; omega
          · have := HO.out.1; simp; omega
          have HNX := Lib.hid (PrQ.next HX.out HR.out HB.out HO.out HG9.out HOW.out HE.out.1 HE.out.2.1 HE.out.2.2 (by have := HKQ.out.1; omega) HZQ.out.1 HZQ.out.2)
          go_roundw
          case rel => first | exact ⟨L ++ [zz], snoc_len HKQ.out.1 (by omega), snoc_int HKQ.out.1, snoc_last L zz, HNX.out⟩ | ((repeat apply Exists.intro); exact ⟨⟨L ++ [zz], snoc_len HKQ.out.1 (by omega), snoc_int HKQ.out.1, snoc_last L zz, HNX.out⟩, rfl⟩)
          case measure => simp [intOf]; omega
        · have hkm : (k : Int) = m := by omega
          obtain ⟨A9, c9, rfl⟩ := own_formQ HO.out
          have hL16 : L.length ≤ 16 := by have := HM.out; have := HKQ.out.1; omega
          clear hk hkm hq0
          obtain ⟨x0, x1, x2, x3, x4, x5, x6, x7, x8, x9, x10, x11, x12, x13⟩ := Blk.cells14 HX.out
          obtain ⟨y0, y1, y2, y3, y4, y5, y6, y7, y8, y9, y10, y11, y12, y13⟩ := Blk.zeros HR.out
          have hfr := HR.out.frozen
          rw [HKQ.out.1] at x9
          go_wp2_with fail
          obtain ⟨W, hW, hA, hBB, hsz, hoth⟩ := set_one14 HR.out rfl HB.out (Nat.le_refl _) (.int .i64 1) (.int .i64 z0) (.bool (z1 == 1)) (.int .i64 p0) (.int .i64 p1) (.int .i64 p2) (.int .i64 l0) (.int .i64 l1) (.int .i64 l2) (.slice A9 L.length c9) (.int .i64 0) (.int .i64 0) (.int .i64 0) (.string ⟨#[]⟩)
          rw [HKQ.out.1] at hW
          rw [hW]
          exact of_ret (x := ⟨1, z0, z1 == 1, p0, p1, p2, l0, l1, l2, L, 0, 0, 0, ⟨#[]⟩⟩) (by simp) hA (fix_ok HZ0.out HP.out HL.out HE.out.1 hL16) (own_less (own_heap HO.out (fun g hg => hoth g (by have := own_ge HO.out hg; omega))) (by omega)) hBB
end Go.Proofs.YteeekdffbcbamaaGreatDoor
