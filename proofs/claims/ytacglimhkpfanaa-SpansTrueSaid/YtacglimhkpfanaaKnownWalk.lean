/-
  WALK: SpansKnown returns true.
-/
import Derived.Test.YtacglimhkpfanaaAllE
import Derived.Test.YtacglimhkpfanaaStartP
import Derived.Test.YtacglimhkpfanaaSameW
namespace Go.Proofs.Ytacglimhkpfanaa
open Go.RowKit

theorem lit2 (w : World) (a b : Plain.Tri) (t : TypeId) : Reads3 (w.alloc (.cells #[.int .i64 a.1, .int .i64 a.2.1, .int .i64 a.2.2, .int .i64 b.1, .int .i64 b.2.1, .int .i64 b.2.2] t)) (w.heap.size + 1) (some ⟨w.heap.size, 0, none⟩) [a, b] := by
  have hc : ∀ i u, #[Value.int .i64 a.1, .int .i64 a.2.1, .int .i64 a.2.2, .int .i64 b.1, .int .i64 b.2.1, .int .i64 b.2.2][i]? = some u →
      (w.alloc (.cells #[.int .i64 a.1, .int .i64 a.2.1, .int .i64 a.2.2, .int .i64 b.1, .int .i64 b.2.1, .int .i64 b.2.2] t)).cell? ⟨w.heap.size, i, none⟩ = some u := fun i u hu => by
    unfold World.cell?
    rw [heap_new]
    simpa using hu
  refine Reads3.mk (Nat.lt_succ_self _) fun j hj => ?_
  rw [add0, add0, add0]
  match j, hj with
  | 0, _ => exact ⟨hc _ _ rfl, hc _ _ rfl, hc _ _ rfl⟩
  | 1, _ => exact ⟨hc _ _ rfl, hc _ _ rfl, hc _ _ rfl⟩

theorem index_nil (w : World) : Calls Try.prog 41 #[.slice none 0 0, .func (.func 38) #[] #[]] w fun e w' => e = .returned (.int .i64 (-1)) ∧ w = w' := by
  go_enter Try.func41, Try.ntmps41
  go_wp2_with fail
  refine wp_loop_rounds 1 ?_
  rw [rounds_succ]
  go_wp2_with fail
  go_ret
  exact ⟨rfl, rfl⟩
theorem contains_nil (w : World) : Calls Try.prog 37 #[.slice none 0 0, .func (.func 38) #[] #[]] w fun e w' => e = .returned (.bool false) ∧ w = w' := by
  go_enter Try.func37, Try.ntmps37
  go_wp2_with fail
  refine (index_nil _).mono ?_
  rintro e w1 ⟨rfl, rfl⟩
  go_wp2_with fail
  go_ret
  exact ⟨rfl, rfl⟩
theorem start21_nil (l : Int) (w : World) (hp : Plain.perB l = true) : Calls Try.prog 21 #[.int .i64 l, .slice none 0 0] w fun e w' => e = .returned (.tuple #[.int .i64 0, .int .i64 4]) ∧ w = w' := by
  have HP := Lib.hid (fun W => by have := period_any l W; rw [hp] at this; exact this)
  clear hp
  go_enter Try.func21, Try.ntmps21
  go_wp2_with fail
  refine (HP.out _).mono ?_
  rintro e w1 ⟨rfl, rfl⟩
  go_wp2_with fail
  refine (contains_nil _).mono ?_
  rintro e w1 ⟨rfl, rfl⟩
  go_wp2_with fail
  go_ret2
  exact ⟨rfl, rfl⟩

set_option maxHeartbeats 4000000 in
theorem spansKnown_walk (w : World) : Calls Try.prog 6 #[] w fun e w' => e = .returned (.bool true) ∧ Below w.heap.size w w' := by
  have H1 := Lib.hid (fun W => place17_is 10 20 6003 1 0 3 0 (by decide) (by decide) (by decide) (by decide) W)
  have H2 := Lib.hid (fun W => time15_is 10 20 0 300 0 0 2 (by decide) (by decide) W)
  have H3 := Lib.hid (fun W => len_yes 1000 0 500 0 149896229 (by decide) (by decide) W)
  have H4 := Lib.hid (fun W => bnd_yes 2046 2 293054 (by decide) (by decide) W)
  have H5 := Lib.hid (fun W => bnd_yes 8192 8 292768 (by decide) (by decide) W)
  have H6 := Lib.hid (fun W => bound12_is 1 9 0 2 (by decide) (by decide) W)
  have H7 := Lib.hid (fun W : World => start21_any 1000 ⟨W.heap.size, 0, none⟩ 2 2 [(1, 0, 60), (2, 2500, 67)] (W.alloc _) rfl rfl (by decide) ((lit2 W (1, 0, 60) (2, 2500, 67) 23).more (by simp)) (by simp) 65 0 (by decide) (by decide))
  have H8 := Lib.hid (fun W => start21_nil 1000 W (by decide))
  have H9 := Lib.hid (fun W : World => all19_any 1000 2 130 (some ⟨W.heap.size, 0, none⟩) 2 2 [(2, 2500, 67), (1, 0, 60)] (W.alloc _) rfl ((lit2 W (2, 2500, 67) (1, 0, 60) 23).more (by simp)) [(1, 20985472060, 599586), (2, 19636405999, 599586)] 0 (by decide) (by decide))
  have H10 := Lib.hid (fun W => length_is 1000 0 0 0 0 0 2 (by decide) (by decide) W)
  have H11 := Lib.hid (fun W => length_is 1000 1209600001 1 0 0 0 2 (by decide) (by decide) W)
  have H12 := Lib.hid (fun W => length_is 1000 40000 1 0 0 0 5 (by decide) (by decide) W)
  go_enter Try.func6, Try.ntmps6
  go_wp2_with fail
  refine (H1.out _).mono ?_
  rintro e w1 ⟨rfl, hb1⟩
  have B1 := Lib.hid hb1; clear hb1
  go_wp2_with fail
  refine (H2.out _).mono ?_
  rintro e w2 ⟨rfl, rfl⟩
  go_wp2_with fail
  refine (H3.out _).mono ?_
  rintro e w3 ⟨rfl, hb3⟩
  have B3 := Lib.hid (B1.out.trans (hb3.mono B1.out.size)); clear hb3
  go_wp2_with fail
  refine (H4.out _).mono ?_
  rintro e w4 ⟨rfl, rfl⟩
  go_wp2_with fail
  refine (H5.out _).mono ?_
  rintro e w5 ⟨rfl, rfl⟩
  go_wp2_with fail
  refine (H6.out _).mono ?_
  rintro e w6 ⟨rfl, rfl⟩
  go_wp2_with fail
  refine (H7.out _).mono ?_
  rintro e w7 ⟨rfl, hb7⟩
  have B7 := Lib.hid ((B3.out.alloc B3.out.size _).trans (hb7.mono (Nat.le_trans B3.out.size (by simp)))); clear hb7
  go_wp2_with fail
  refine (H8.out _).mono ?_
  rintro e w8 ⟨rfl, rfl⟩
  go_wp2_with fail
  refine (H9.out _).mono ?_
  rintro e w9 ⟨A1, n1, c1, rfl, hn1, hr9, hb9⟩
  obtain rfl : 2 = n1 := hn1
  have R9 := Lib.hid hr9; clear hr9
  have B9 := Lib.hid ((B7.out.alloc B7.out.size _).trans (hb9.mono (Nat.le_trans B7.out.size (by simp)))); clear hb9
  have H13 := Lib.hid (same23_yes A1 (some ⟨w9.heap.size, 0, none⟩) 2 c1 2 [(1, 20985472060, 599586), (2, 19636405999, 599586)] (w9.alloc (.cells #[.int .i64 1, .int .i64 20985472060, .int .i64 599586, .int .i64 2, .int .i64 19636405999, .int .i64 599586] 44)) ((R9.out.below (below1 w9 _) (Nat.le_refl _)).more (by simp)) ((lit2 w9 (1, 20985472060, 599586) (2, 19636405999, 599586) 44).more (by simp)) rfl (by decide))
  go_wp2_with fail
  refine H13.out.mono ?_
  rintro e w10 ⟨rfl, hb10⟩
  have B10 := Lib.hid ((B9.out.alloc B9.out.size _).trans (hb10.mono (Nat.le_trans B9.out.size (by simp)))); clear hb10
  go_wp2_with fail
  refine (H10.out _).mono ?_
  rintro e w11 ⟨rfl, hb11⟩
  have B11 := Lib.hid (B10.out.trans (hb11.mono B10.out.size)); clear hb11
  go_wp2_with fail
  refine (H11.out _).mono ?_
  rintro e w12 ⟨rfl, hb12⟩
  have B12 := Lib.hid (B11.out.trans (hb12.mono B11.out.size)); clear hb12
  go_wp2_with fail
  refine (H12.out _).mono ?_
  rintro e w13 ⟨rfl, hb13⟩
  have B13 := Lib.hid (B12.out.trans (hb13.mono B12.out.size)); clear hb13
  go_wp2_with fail
  refine (awake_any _).mono ?_
  rintro e w14 ⟨rfl, hb14⟩
  go_wp2_with fail
  go_ret
  exact ⟨rfl, B13.out.trans (hb14.mono B13.out.size)⟩
end Go.Proofs.Ytacglimhkpfanaa
