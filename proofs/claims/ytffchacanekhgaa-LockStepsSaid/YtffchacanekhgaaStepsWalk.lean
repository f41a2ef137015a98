/-
  WALK: LockSteps returns true.
-/
import Derived.Test.YtffchacanekhgaaSteps1
import Derived.Test.YtffchacanekhgaaRunsWalk
import Derived.Deep.RegionHeld3
namespace Go.Proofs.Ytffchacanekhgaa
open Go.RowKit

/-- The seven variables of the statement. -/
structure K7 (g0 g1 g2 g3 g4 g5 g6 : Nat) (n m u d : Int) (b : Bool) (An Am Au Ad : Int) (Ab : Bool) (Cn Cm Cu Cd : Int) (Cb : Bool) (Nn Nm : Int) (w : World) : Prop where
  k0 : Lkb w g0 n m u d b
  k1 : Lkb w g1 An Am Au Ad Ab
  k2 : Lkb w g2 An Am Au Ad Ab
  k3 : Lkb w g3 Cn Cm Cu Cd Cb
  k4 : Lkb w g4 Cn Cm Cu Cd Cb
  k5 : Lkb w g5 Nn Nm 0 0 false
  k6 : Lkb w g6 Nn Nm 0 0 false
theorem K7.below {g0 g1 g2 g3 g4 g5 g6 : Nat} {n m u d : Int} {b : Bool} {An Am Au Ad : Int} {Ab : Bool} {Cn Cm Cu Cd : Int} {Cb : Bool} {Nn Nm : Int} {w w' : World} (h : K7 g0 g1 g2 g3 g4 g5 g6 n m u d b An Am Au Ad Ab Cn Cm Cu Cd Cb Nn Nm w) (hb : Below w.heap.size w w') : K7 g0 g1 g2 g3 g4 g5 g6 n m u d b An Am Au Ad Ab Cn Cm Cu Cd Cb Nn Nm w' :=
  ⟨h.k0.below hb h.k0.lt, h.k1.below hb h.k1.lt, h.k2.below hb h.k2.lt, h.k3.below hb h.k3.lt, h.k4.below hb h.k4.lt, h.k5.below hb h.k5.lt, h.k6.below hb h.k6.lt⟩
theorem K7.heap_ {g0 g1 g2 g3 g4 g5 g6 : Nat} {n m u d : Int} {b : Bool} {An Am Au Ad : Int} {Ab : Bool} {Cn Cm Cu Cd : Int} {Cb : Bool} {Nn Nm : Int} {w W : World} (h : K7 g0 g1 g2 g3 g4 g5 g6 n m u d b An Am Au Ad Ab Cn Cm Cu Cd Cb Nn Nm w) (hd : W.heap = w.heap) : K7 g0 g1 g2 g3 g4 g5 g6 n m u d b An Am Au Ad Ab Cn Cm Cu Cd Cb Nn Nm W := ⟨(by have := h.k0; unfold Lkb at this ⊢; rw [hd]; exact this), (by have := h.k1; unfold Lkb at this ⊢; rw [hd]; exact this), (by have := h.k2; unfold Lkb at this ⊢; rw [hd]; exact this), (by have := h.k3; unfold Lkb at this ⊢; rw [hd]; exact this), (by have := h.k4; unfold Lkb at this ⊢; rw [hd]; exact this), (by have := h.k5; unfold Lkb at this ⊢; rw [hd]; exact this), (by have := h.k6; unfold Lkb at this ⊢; rw [hd]; exact this)⟩
theorem K7.past {g0 g1 g2 g3 g4 g5 g6 : Nat} {n m u d : Int} {b : Bool} {An Am Au Ad : Int} {Ab : Bool} {Cn Cm Cu Cd : Int} {Cb : Bool} {Nn Nm : Int} {w W w' : World} (h : K7 g0 g1 g2 g3 g4 g5 g6 n m u d b An Am Au Ad Ab Cn Cm Cu Cd Cb Nn Nm w) (hb : Below W.heap.size W w') (hd : W.heap = w.heap) : K7 g0 g1 g2 g3 g4 g5 g6 n m u d b An Am Au Ad Ab Cn Cm Cu Cd Cb Nn Nm w' := by
  have h2 : K7 g0 g1 g2 g3 g4 g5 g6 n m u d b An Am Au Ad Ab Cn Cm Cu Cd Cb Nn Nm W := ⟨(by have := h.k0; unfold Lkb at this ⊢; rw [hd]; exact this), (by have := h.k1; unfold Lkb at this ⊢; rw [hd]; exact this), (by have := h.k2; unfold Lkb at this ⊢; rw [hd]; exact this), (by have := h.k3; unfold Lkb at this ⊢; rw [hd]; exact this), (by have := h.k4; unfold Lkb at this ⊢; rw [hd]; exact this), (by have := h.k5; unfold Lkb at this ⊢; rw [hd]; exact this), (by have := h.k6; unfold Lkb at this ⊢; rw [hd]; exact this)⟩
  exact h2.below hb
theorem K7.all {g0 g1 g2 g3 g4 g5 g6 : Nat} {n m u d : Int} {b : Bool} {An Am Au Ad : Int} {Ab : Bool} {Cn Cm Cu Cd : Int} {Cb : Bool} {Nn Nm : Int} {w' : World} (h : K7 g0 g1 g2 g3 g4 g5 g6 n m u d b An Am Au Ad Ab Cn Cm Cu Cd Cb Nn Nm w') : w'.cell? ⟨g0, 0, none⟩ = some (.int .i64 n) ∧ w'.cell? ⟨g0, 1, none⟩ = some (.int .i64 m) ∧ w'.cell? ⟨g0, 2, none⟩ = some (.int .i64 u) ∧ w'.cell? ⟨g0, 3, none⟩ = some (.int .i64 d) ∧ w'.cell? ⟨g0, 4, none⟩ = some (.bool b) ∧ w'.cell? ⟨g1, 0, none⟩ = some (.int .i64 An) ∧ w'.cell? ⟨g1, 1, none⟩ = some (.int .i64 Am) ∧ w'.cell? ⟨g1, 2, none⟩ = some (.int .i64 Au) ∧ w'.cell? ⟨g1, 3, none⟩ = some (.int .i64 Ad) ∧ w'.cell? ⟨g1, 4, none⟩ = some (.bool Ab) ∧ w'.cell? ⟨g2, 0, none⟩ = some (.int .i64 An) ∧ w'.cell? ⟨g2, 1, none⟩ = some (.int .i64 Am) ∧ w'.cell? ⟨g2, 2, none⟩ = some (.int .i64 Au) ∧ w'.cell? ⟨g2, 3, none⟩ = some (.int .i64 Ad) ∧ w'.cell? ⟨g2, 4, none⟩ = some (.bool Ab) ∧ w'.cell? ⟨g3, 0, none⟩ = some (.int .i64 Cn) ∧ w'.cell? ⟨g3, 1, none⟩ = some (.int .i64 Cm) ∧ w'.cell? ⟨g3, 2, none⟩ = some (.int .i64 Cu) ∧ w'.cell? ⟨g3, 3, none⟩ = some (.int .i64 Cd) ∧ w'.cell? ⟨g3, 4, none⟩ = some (.bool Cb) ∧ w'.cell? ⟨g4, 0, none⟩ = some (.int .i64 Cn) ∧ w'.cell? ⟨g4, 1, none⟩ = some (.int .i64 Cm) ∧ w'.cell? ⟨g4, 2, none⟩ = some (.int .i64 Cu) ∧ w'.cell? ⟨g4, 3, none⟩ = some (.int .i64 Cd) ∧ w'.cell? ⟨g4, 4, none⟩ = some (.bool Cb) ∧ w'.cell? ⟨g5, 0, none⟩ = some (.int .i64 Nn) ∧ w'.cell? ⟨g5, 1, none⟩ = some (.int .i64 Nm) ∧ w'.cell? ⟨g5, 2, none⟩ = some (.int .i64 0) ∧ w'.cell? ⟨g5, 3, none⟩ = some (.int .i64 0) ∧ w'.cell? ⟨g5, 4, none⟩ = some (.bool false) ∧ w'.cell? ⟨g6, 0, none⟩ = some (.int .i64 Nn) ∧ w'.cell? ⟨g6, 1, none⟩ = some (.int .i64 Nm) ∧ w'.cell? ⟨g6, 2, none⟩ = some (.int .i64 0) ∧ w'.cell? ⟨g6, 3, none⟩ = some (.int .i64 0) ∧ w'.cell? ⟨g6, 4, none⟩ = some (.bool false) :=
  ⟨h.k0.cells.1, h.k0.cells.2.1, h.k0.cells.2.2.1, h.k0.cells.2.2.2.1, h.k0.cells.2.2.2.2, h.k1.cells.1, h.k1.cells.2.1, h.k1.cells.2.2.1, h.k1.cells.2.2.2.1, h.k1.cells.2.2.2.2, h.k2.cells.1, h.k2.cells.2.1, h.k2.cells.2.2.1, h.k2.cells.2.2.2.1, h.k2.cells.2.2.2.2, h.k3.cells.1, h.k3.cells.2.1, h.k3.cells.2.2.1, h.k3.cells.2.2.2.1, h.k3.cells.2.2.2.2, h.k4.cells.1, h.k4.cells.2.1, h.k4.cells.2.2.1, h.k4.cells.2.2.2.1, h.k4.cells.2.2.2.2, h.k5.cells.1, h.k5.cells.2.1, h.k5.cells.2.2.1, h.k5.cells.2.2.2.1, h.k5.cells.2.2.2.2, h.k6.cells.1, h.k6.cells.2.1, h.k6.cells.2.2.1, h.k6.cells.2.2.2.1, h.k6.cells.2.2.2.2⟩

set_option maxHeartbeats 8000000 in
theorem lockSteps_walk (n m u d : Int) (b : Bool) (need miss over : Int) (w : World) : Calls Try.prog 6 #[.agg #[.int .i64 n, .int .i64 m, .int .i64 u, .int .i64 d, .bool b], .int .i64 need, .int .i64 miss, .int .i64 over] w fun e w' => e = .returned (.bool true) ∧ Below w.heap.size w w' := by
  obtain ⟨An, hAn⟩ : ∃ z, Plain.sN n m u d b = z := ⟨_, rfl⟩
  obtain ⟨Am, hAm⟩ : ∃ z, Plain.sM n m u d b = z := ⟨_, rfl⟩
  obtain ⟨Au, hAu⟩ : ∃ z, Plain.sU n m u d b true = z := ⟨_, rfl⟩
  obtain ⟨Ad, hAd⟩ : ∃ z, Plain.sD n m u d b true = z := ⟨_, rfl⟩
  obtain ⟨Ab, hAb⟩ : ∃ z, Plain.sB n m u d b true = z := ⟨_, rfl⟩
  obtain ⟨Cu, hCu⟩ : ∃ z, Plain.sU n m u d b false = z := ⟨_, rfl⟩
  obtain ⟨Cd, hCd⟩ : ∃ z, Plain.sD n m u d b false = z := ⟨_, rfl⟩
  obtain ⟨Cb, hCb⟩ : ∃ z, Plain.sB n m u d b false = z := ⟨_, rfl⟩
  obtain ⟨Nn, hNn⟩ : ∃ z, Plain.newN need miss = z := ⟨_, rfl⟩
  obtain ⟨Nm, hNm⟩ : ∃ z, Plain.newM need miss = z := ⟨_, rfl⟩
  obtain ⟨Ne, hNe⟩ : ∃ z, Plain.newE need miss = z := ⟨_, rfl⟩
  obtain ⟨r, hr⟩ : ∃ z, Plain.chk n m u d b = z := ⟨_, rfl⟩
  obtain ⟨x, hx⟩ : ∃ z, Plain.reachV n m u d b over = z := ⟨_, rfl⟩
  obtain ⟨xe, hxe⟩ : ∃ z, Plain.reachE n m u d b over = z := ⟨_, rfl⟩
  have H17t := Lib.hid (fun W => (show Calls Try.prog 17 _ W _ from step17_any n m u d b true W))
  have H18t := Lib.hid (fun W => (show Calls Try.prog 18 _ W _ from step18_any n m u d b true W))
  have H17f := Lib.hid (fun W => (show Calls Try.prog 17 _ W _ from step17_any n m u d b false W))
  have H18f := Lib.hid (fun W => (show Calls Try.prog 18 _ W _ from step18_any n m u d b false W))
  rw [hAn, hAm, hAu, hAd, hAb, hr] at H17t H18t
  rw [hAn, hAm, hCu, hCd, hCb, hr] at H17f H18f
  have H13 := Lib.hid (fun W => new13_is need miss Nn Nm Ne hNn hNm hNe W)
  have H19 := Lib.hid (fun W => new19_is need miss Nn Nm Ne hNn hNm hNe W)
  have H15 := Lib.hid (fun W => reach15_is n m u d b over x xe hx hxe W)
  have H20 := Lib.hid (fun W => reach20_is n m u d b over x xe hx hxe W)
  have H14 := Lib.hid (fun W => check14_is n m u d b r hr W)
  have H21 := Lib.hid (fun W => check21_is n m u d b r hr W)
  have heqA := eq23_self An Am Au Ad Ab
  have heqC := eq23_self An Am Cu Cd Cb
  have heqN := eq23_self Nn Nm 0 0 false
  clear hAn hAm hAu hAd hAb hCu hCd hCb hNn hNm hNe hr hx hxe
  go_enter Try.func6, Try.ntmps6
  have l0 : Lkb (w.alloc (.cells #[.int .i64 n, .int .i64 m, .int .i64 u, .int .i64 d, .bool b] 23)) w.heap.size n m u d b := heap_new_at _ _ _ rfl
  have kk : Below w.heap.size w (w.alloc (.cells #[.int .i64 n, .int .i64 m, .int .i64 u, .int .i64 d, .bool b] 23)) := below1 w _
  go_wp2_with fail
  refine (H17t.out _).mono ?_
  rintro e w1 ⟨rfl, hb⟩
  replace l0 := l0.below hb (by have := l0.lt; exact this)
  replace kk := bthen kk hb
  clear hb
  obtain ⟨c0, c1, c2, c3, c4⟩ := l0.cells
  have hlt := l0.lt
  have l1 : Lkb (w1.alloc (.cells #[.int .i64 An, .int .i64 Am, .int .i64 Au, .int .i64 Ad, .bool Ab] 23)) w1.heap.size An Am Au Ad Ab := heap_new_at _ _ _ rfl
  replace l0 := l0.alloc (.cells #[.int .i64 An, .int .i64 Am, .int .i64 Au, .int .i64 Ad, .bool Ab] 23)
  replace kk := balloc kk (.cells #[.int .i64 An, .int .i64 Am, .int .i64 Au, .int .i64 Ad, .bool Ab] 23)
  have l0H := Lib.hid l0; clear l0; have l1H := Lib.hid l1; clear l1
  have kkH := Lib.hid kk; clear kk
  go_wp2_with fail
  clear c0 c1 c2 c3 c4 hlt
  have l0 := l0H.out; clear l0H; have l1 := l1H.out; clear l1H
  have kk := kkH.out; clear kkH
  go_wp2_with fail
  refine (H18t.out _).mono ?_
  rintro e w2 ⟨rfl, hb⟩
  replace l0 := l0.below hb (by have := l0.lt; exact this)
  replace l1 := l1.below hb (by have := l1.lt; exact this)
  replace kk := bthen kk hb
  clear hb
  obtain ⟨c0, c1, c2, c3, c4⟩ := l0.cells
  have hlt := l0.lt
  have l2 : Lkb (w2.alloc (.cells #[.int .i64 An, .int .i64 Am, .int .i64 Au, .int .i64 Ad, .bool Ab] 23)) w2.heap.size An Am Au Ad Ab := heap_new_at _ _ _ rfl
  replace l0 := l0.alloc (.cells #[.int .i64 An, .int .i64 Am, .int .i64 Au, .int .i64 Ad, .bool Ab] 23)
  replace l1 := l1.alloc (.cells #[.int .i64 An, .int .i64 Am, .int .i64 Au, .int .i64 Ad, .bool Ab] 23)
  replace kk := balloc kk (.cells #[.int .i64 An, .int .i64 Am, .int .i64 Au, .int .i64 Ad, .bool Ab] 23)
  have l0H := Lib.hid l0; clear l0; have l1H := Lib.hid l1; clear l1; have l2H := Lib.hid l2; clear l2
  have kkH := Lib.hid kk; clear kk
  go_wp2_with fail
  clear c0 c1 c2 c3 c4 hlt
  have l0 := l0H.out; clear l0H; have l1 := l1H.out; clear l1H; have l2 := l2H.out; clear l2H
  have kk := kkH.out; clear kkH
  go_wp2_with fail
  refine (H17f.out _).mono ?_
  rintro e w3 ⟨rfl, hb⟩
  replace l0 := l0.below hb (by have := l0.lt; exact this)
  replace l1 := l1.below hb (by have := l1.lt; exact this)
  replace l2 := l2.below hb (by have := l2.lt; exact this)
  replace kk := bthen kk hb
  clear hb
  obtain ⟨c0, c1, c2, c3, c4⟩ := l0.cells
  have hlt := l0.lt
  have l3 : Lkb (w3.alloc (.cells #[.int .i64 An, .int .i64 Am, .int .i64 Cu, .int .i64 Cd, .bool Cb] 23)) w3.heap.size An Am Cu Cd Cb := heap_new_at _ _ _ rfl
  replace l0 := l0.alloc (.cells #[.int .i64 An, .int .i64 Am, .int .i64 Cu, .int .i64 Cd, .bool Cb] 23)
  replace l1 := l1.alloc (.cells #[.int .i64 An, .int .i64 Am, .int .i64 Cu, .int .i64 Cd, .bool Cb] 23)
  replace l2 := l2.alloc (.cells #[.int .i64 An, .int .i64 Am, .int .i64 Cu, .int .i64 Cd, .bool Cb] 23)
  replace kk := balloc kk (.cells #[.int .i64 An, .int .i64 Am, .int .i64 Cu, .int .i64 Cd, .bool Cb] 23)
  have l0H := Lib.hid l0; clear l0; have l1H := Lib.hid l1; clear l1; have l2H := Lib.hid l2; clear l2; have l3H := Lib.hid l3; clear l3
  have kkH := Lib.hid kk; clear kk
  go_wp2_with fail
  clear c0 c1 c2 c3 c4 hlt
  have l0 := l0H.out; clear l0H; have l1 := l1H.out; clear l1H; have l2 := l2H.out; clear l2H; have l3 := l3H.out; clear l3H
  have kk := kkH.out; clear kkH
  go_wp2_with fail
  refine (H18f.out _).mono ?_
  rintro e w4 ⟨rfl, hb⟩
  replace l0 := l0.below hb (by have := l0.lt; exact this)
  replace l1 := l1.below hb (by have := l1.lt; exact this)
  replace l2 := l2.below hb (by have := l2.lt; exact this)
  replace l3 := l3.below hb (by have := l3.lt; exact this)
  replace kk := bthen kk hb
  clear hb
  obtain ⟨c0, c1, c2, c3, c4⟩ := l0.cells
  have hlt := l0.lt
  have l4 : Lkb (w4.alloc (.cells #[.int .i64 An, .int .i64 Am, .int .i64 Cu, .int .i64 Cd, .bool Cb] 23)) w4.heap.size An Am Cu Cd Cb := heap_new_at _ _ _ rfl
  replace l0 := l0.alloc (.cells #[.int .i64 An, .int .i64 Am, .int .i64 Cu, .int .i64 Cd, .bool Cb] 23)
  replace l1 := l1.alloc (.cells #[.int .i64 An, .int .i64 Am, .int .i64 Cu, .int .i64 Cd, .bool Cb] 23)
  replace l2 := l2.alloc (.cells #[.int .i64 An, .int .i64 Am, .int .i64 Cu, .int .i64 Cd, .bool Cb] 23)
  replace l3 := l3.alloc (.cells #[.int .i64 An, .int .i64 Am, .int .i64 Cu, .int .i64 Cd, .bool Cb] 23)
  replace kk := balloc kk (.cells #[.int .i64 An, .int .i64 Am, .int .i64 Cu, .int .i64 Cd, .bool Cb] 23)
  have l0H := Lib.hid l0; clear l0; have l1H := Lib.hid l1; clear l1; have l2H := Lib.hid l2; clear l2; have l3H := Lib.hid l3; clear l3; have l4H := Lib.hid l4; clear l4
  have kkH := Lib.hid kk; clear kk
  go_wp2_with fail
  clear c0 c1 c2 c3 c4 hlt
  have l0 := l0H.out; clear l0H; have l1 := l1H.out; clear l1H; have l2 := l2H.out; clear l2H; have l3 := l3H.out; clear l3H; have l4 := l4H.out; clear l4H
  have kk := kkH.out; clear kkH
  go_wp2_with fail
  refine (H13.out _).mono ?_
  rintro e w5 ⟨rfl, hb⟩
  replace l0 := l0.below hb (by have := l0.lt; exact this)
  replace l1 := l1.below hb (by have := l1.lt; exact this)
  replace l2 := l2.below hb (by have := l2.lt; exact this)
  replace l3 := l3.below hb (by have := l3.lt; exact this)
  replace l4 := l4.below hb (by have := l4.lt; exact this)
  replace kk := bthen kk hb
  clear hb
  obtain ⟨c0, c1, c2, c3, c4⟩ := l0.cells
  have hlt := l0.lt
  have l5 : Lkb (w5.alloc (.cells #[.int .i64 Nn, .int .i64 Nm, .int .i64 0, .int .i64 0, .bool false] 23)) w5.heap.size Nn Nm 0 0 false := heap_new_at _ _ _ rfl
  replace l0 := l0.alloc (.cells #[.int .i64 Nn, .int .i64 Nm, .int .i64 0, .int .i64 0, .bool false] 23)
  replace l1 := l1.alloc (.cells #[.int .i64 Nn, .int .i64 Nm, .int .i64 0, .int .i64 0, .bool false] 23)
  replace l2 := l2.alloc (.cells #[.int .i64 Nn, .int .i64 Nm, .int .i64 0, .int .i64 0, .bool false] 23)
  replace l3 := l3.alloc (.cells #[.int .i64 Nn, .int .i64 Nm, .int .i64 0, .int .i64 0, .bool false] 23)
  replace l4 := l4.alloc (.cells #[.int .i64 Nn, .int .i64 Nm, .int .i64 0, .int .i64 0, .bool false] 23)
  replace kk := balloc kk (.cells #[.int .i64 Nn, .int .i64 Nm, .int .i64 0, .int .i64 0, .bool false] 23)
  have l0H := Lib.hid l0; clear l0; have l1H := Lib.hid l1; clear l1; have l2H := Lib.hid l2; clear l2; have l3H := Lib.hid l3; clear l3; have l4H := Lib.hid l4; clear l4; have l5H := Lib.hid l5; clear l5
  have kkH := Lib.hid kk; clear kk
  go_wp2_with fail
  clear c0 c1 c2 c3 c4 hlt
  have l0 := l0H.out; clear l0H; have l1 := l1H.out; clear l1H; have l2 := l2H.out; clear l2H; have l3 := l3H.out; clear l3H; have l4 := l4H.out; clear l4H; have l5 := l5H.out; clear l5H
  have kk := kkH.out; clear kkH
  go_wp2_with fail
  refine (H19.out _).mono ?_
  rintro e w6 ⟨rfl, hb⟩
  replace l0 := l0.below hb (by have := l0.lt; exact this)
  replace l1 := l1.below hb (by have := l1.lt; exact this)
  replace l2 := l2.below hb (by have := l2.lt; exact this)
  replace l3 := l3.below hb (by have := l3.lt; exact this)
  replace l4 := l4.below hb (by have := l4.lt; exact this)
  replace l5 := l5.below hb (by have := l5.lt; exact this)
  replace kk := bthen kk hb
  clear hb
  obtain ⟨c0, c1, c2, c3, c4⟩ := l0.cells
  have hlt := l0.lt
  have l6 : Lkb (w6.alloc (.cells #[.int .i64 Nn, .int .i64 Nm, .int .i64 0, .int .i64 0, .bool false] 23)) w6.heap.size Nn Nm 0 0 false := heap_new_at _ _ _ rfl
  replace l0 := l0.alloc (.cells #[.int .i64 Nn, .int .i64 Nm, .int .i64 0, .int .i64 0, .bool false] 23)
  replace l1 := l1.alloc (.cells #[.int .i64 Nn, .int .i64 Nm, .int .i64 0, .int .i64 0, .bool false] 23)
  replace l2 := l2.alloc (.cells #[.int .i64 Nn, .int .i64 Nm, .int .i64 0, .int .i64 0, .bool false] 23)
  replace l3 := l3.alloc (.cells #[.int .i64 Nn, .int .i64 Nm, .int .i64 0, .int .i64 0, .bool false] 23)
  replace l4 := l4.alloc (.cells #[.int .i64 Nn, .int .i64 Nm, .int .i64 0, .int .i64 0, .bool false] 23)
  replace l5 := l5.alloc (.cells #[.int .i64 Nn, .int .i64 Nm, .int .i64 0, .int .i64 0, .bool false] 23)
  replace kk := balloc kk (.cells #[.int .i64 Nn, .int .i64 Nm, .int .i64 0, .int .i64 0, .bool false] 23)
  have l0H := Lib.hid l0; clear l0; have l1H := Lib.hid l1; clear l1; have l2H := Lib.hid l2; clear l2; have l3H := Lib.hid l3; clear l3; have l4H := Lib.hid l4; clear l4; have l5H := Lib.hid l5; clear l5; have l6H := Lib.hid l6; clear l6
  have kkH := Lib.hid kk; clear kk
  go_wp2_with fail
  clear c0 c1 c2 c3 c4 hlt
  have l0 := l0H.out; clear l0H; have l1 := l1H.out; clear l1H; have l2 := l2H.out; clear l2H; have l3 := l3H.out; clear l3H; have l4 := l4H.out; clear l4H; have l5 := l5H.out; clear l5H; have l6 := l6H.out; clear l6H
  have kk := kkH.out; clear kkH
  go_wp2_with fail
  refine (H15.out _).mono ?_
  rintro e w7 ⟨rfl, hb⟩
  replace l0 := l0.below hb (by have := l0.lt; exact this)
  replace l1 := l1.below hb (by have := l1.lt; exact this)
  replace l2 := l2.below hb (by have := l2.lt; exact this)
  replace l3 := l3.below hb (by have := l3.lt; exact this)
  replace l4 := l4.below hb (by have := l4.lt; exact this)
  replace l5 := l5.below hb (by have := l5.lt; exact this)
  replace l6 := l6.below hb (by have := l6.lt; exact this)
  replace kk := bthen kk hb
  clear hb
  obtain ⟨c0, c1, c2, c3, c4⟩ := l0.cells
  have hlt := l0.lt
  have l0H := Lib.hid l0; clear l0; have l1H := Lib.hid l1; clear l1; have l2H := Lib.hid l2; clear l2; have l3H := Lib.hid l3; clear l3; have l4H := Lib.hid l4; clear l4; have l5H := Lib.hid l5; clear l5; have l6H := Lib.hid l6; clear l6
  have kkH := Lib.hid kk; clear kk
  go_wp2_with fail
  clear c0 c1 c2 c3 c4 hlt
  have l0 := l0H.out; clear l0H; have l1 := l1H.out; clear l1H; have l2 := l2H.out; clear l2H; have l3 := l3H.out; clear l3H; have l4 := l4H.out; clear l4H; have l5 := l5H.out; clear l5H; have l6 := l6H.out; clear l6H
  have kk := kkH.out; clear kkH
  go_wp2_with fail
  refine (H20.out _).mono ?_
  rintro e w8 ⟨rfl, hb⟩
  replace l0 := l0.below hb (by have := l0.lt; exact this)
  replace l1 := l1.below hb (by have := l1.lt; exact this)
  replace l2 := l2.below hb (by have := l2.lt; exact this)
  replace l3 := l3.below hb (by have := l3.lt; exact this)
  replace l4 := l4.below hb (by have := l4.lt; exact this)
  replace l5 := l5.below hb (by have := l5.lt; exact this)
  replace l6 := l6.below hb (by have := l6.lt; exact this)
  replace kk := bthen kk hb
  clear hb
  obtain ⟨c0, c1, c2, c3, c4⟩ := l0.cells
  have hlt := l0.lt
  have l0H := Lib.hid l0; clear l0; have l1H := Lib.hid l1; clear l1; have l2H := Lib.hid l2; clear l2; have l3H := Lib.hid l3; clear l3; have l4H := Lib.hid l4; clear l4; have l5H := Lib.hid l5; clear l5; have l6H := Lib.hid l6; clear l6
  have kkH := Lib.hid kk; clear kk
  go_wp2_with fail
  clear c0 c1 c2 c3 c4 hlt
  have l0 := l0H.out; clear l0H; have l1 := l1H.out; clear l1H; have l2 := l2H.out; clear l2H; have l3 := l3H.out; clear l3H; have l4 := l4H.out; clear l4H; have l5 := l5H.out; clear l5H; have l6 := l6H.out; clear l6H
  have kk := kkH.out; clear kkH
  have hK : K7 (w.heap.size) (w1.heap.size) (w2.heap.size) (w3.heap.size) (w4.heap.size) (w5.heap.size) (w6.heap.size) n m u d b An Am Au Ad Ab An Am Cu Cd Cb Nn Nm w8 := ⟨l0, l1, l2, l3, l4, l5, l6⟩
  clear l0 l1 l2 l3 l4 l5 l6
  have HK := Lib.hid hK; clear hK
  have KK := Lib.hid kk; clear kk
  go_region_held3 (fun w' => w'.cell? ⟨w.heap.size, 0, none⟩ = some (.int .i64 n) ∧ w'.cell? ⟨w.heap.size, 1, none⟩ = some (.int .i64 m) ∧ w'.cell? ⟨w.heap.size, 2, none⟩ = some (.int .i64 u) ∧ w'.cell? ⟨w.heap.size, 3, none⟩ = some (.int .i64 d) ∧ w'.cell? ⟨w.heap.size, 4, none⟩ = some (.bool b) ∧ w'.cell? ⟨w1.heap.size, 0, none⟩ = some (.int .i64 An) ∧ w'.cell? ⟨w1.heap.size, 1, none⟩ = some (.int .i64 Am) ∧ w'.cell? ⟨w1.heap.size, 2, none⟩ = some (.int .i64 Au) ∧ w'.cell? ⟨w1.heap.size, 3, none⟩ = some (.int .i64 Ad) ∧ w'.cell? ⟨w1.heap.size, 4, none⟩ = some (.bool Ab) ∧ w'.cell? ⟨w2.heap.size, 0, none⟩ = some (.int .i64 An) ∧ w'.cell? ⟨w2.heap.size, 1, none⟩ = some (.int .i64 Am) ∧ w'.cell? ⟨w2.heap.size, 2, none⟩ = some (.int .i64 Au) ∧ w'.cell? ⟨w2.heap.size, 3, none⟩ = some (.int .i64 Ad) ∧ w'.cell? ⟨w2.heap.size, 4, none⟩ = some (.bool Ab) ∧ w'.cell? ⟨w3.heap.size, 0, none⟩ = some (.int .i64 An) ∧ w'.cell? ⟨w3.heap.size, 1, none⟩ = some (.int .i64 Am) ∧ w'.cell? ⟨w3.heap.size, 2, none⟩ = some (.int .i64 Cu) ∧ w'.cell? ⟨w3.heap.size, 3, none⟩ = some (.int .i64 Cd) ∧ w'.cell? ⟨w3.heap.size, 4, none⟩ = some (.bool Cb) ∧ w'.cell? ⟨w4.heap.size, 0, none⟩ = some (.int .i64 An) ∧ w'.cell? ⟨w4.heap.size, 1, none⟩ = some (.int .i64 Am) ∧ w'.cell? ⟨w4.heap.size, 2, none⟩ = some (.int .i64 Cu) ∧ w'.cell? ⟨w4.heap.size, 3, none⟩ = some (.int .i64 Cd) ∧ w'.cell? ⟨w4.heap.size, 4, none⟩ = some (.bool Cb) ∧ w'.cell? ⟨w5.heap.size, 0, none⟩ = some (.int .i64 Nn) ∧ w'.cell? ⟨w5.heap.size, 1, none⟩ = some (.int .i64 Nm) ∧ w'.cell? ⟨w5.heap.size, 2, none⟩ = some (.int .i64 0) ∧ w'.cell? ⟨w5.heap.size, 3, none⟩ = some (.int .i64 0) ∧ w'.cell? ⟨w5.heap.size, 4, none⟩ = some (.bool false) ∧ w'.cell? ⟨w6.heap.size, 0, none⟩ = some (.int .i64 Nn) ∧ w'.cell? ⟨w6.heap.size, 1, none⟩ = some (.int .i64 Nm) ∧ w'.cell? ⟨w6.heap.size, 2, none⟩ = some (.int .i64 0) ∧ w'.cell? ⟨w6.heap.size, 3, none⟩ = some (.int .i64 0) ∧ w'.cell? ⟨w6.heap.size, 4, none⟩ = some (.bool false)) (first | exact K7.all (K7.heap_ hk3 rfl) | exact K7.all (K7.heap_ hk2 rfl) | exact K7.all (K7.heap_ hk1 rfl) | exact K7.all (K7.heap_ HK.out rfl))
    (first | (go_at_call 14; refine (H14.out _).mono ?_; rintro e v1 ⟨rfl, hb1⟩; have hk1 := K7.past HK.out hb1 rfl) | (go_at_call 21; refine (H21.out _).mono ?_; rintro e v2 ⟨rfl, hb2⟩; have hk2 := K7.past hk1 hb2 rfl) | (go_at_call 9; refine (awake_any _).mono ?_; rintro e v3 ⟨rfl, hb3⟩; have hk3 := K7.past hk2 hb3 rfl))
  go_wp2_with fail
  go_ret
  exact ⟨rfl, bthen (bthen (bthen KK.out.drew hb1) hb2) hb3⟩
end Go.Proofs.Ytffchacanekhgaa
