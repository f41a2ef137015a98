/-
  WALKS: the closure of Run, fold.
-/
import Derived.Test.YtffchacanekhgaaStep
import Derived.OwnWalk
import Derived.Maps.AppendAt
import Derived.Deep.AppendLies
namespace Go.Proofs.Ytffchacanekhgaa
open Go.RowKit

/-- The map of two method values. -/
def two (g : Nat) : Array MapEntry := #[{ key := .bool true, val := .func (.func 23) #[.pointer (some ⟨g, 0, none⟩)] #[], born := 0 }, { key := .bool false, val := .func (.func 24) #[.pointer (some ⟨g, 0, none⟩)] #[], born := 1 }]
/-- What the closure finds: its two variables and the map. -/
structure Ctx (w : World) (g bs bp bm : Nat) : Prop where
  hs : w.heap[bs]? = some (.cells #[.map (some bm)] 47 (0, 0))
  hp : w.heap[bp]? = some (.cells #[.pointer (some ⟨g, 0, none⟩)] 44 (0, 0))
  hm : w.heap[bm]? = some (.map (two g) 2)
theorem Ctx.grown {w w' : World} {g bs bp bm : Nat} {row : Option Nat} (h : Ctx w g bs bp bm) (hb : w.grownBy w' row) (h1 : some bs ≠ row) (h2 : some bp ≠ row) (h3 : some bm ≠ row) : Ctx w' g bs bp bm :=
  ⟨(hb.block bs (lt_of_block h.hs) h1).trans h.hs, (hb.block bp (lt_of_block h.hp) h2).trans h.hp, (hb.block bm (lt_of_block h.hm) h3).trans h.hm⟩
theorem Ctx.ne_det {w : World} {g bs bp bm : Nat} {n m u d : Int} {b : Bool} (h : Ctx w g bs bp bm) (hd : Det w g n m u d b) : bs ≠ g ∧ bp ≠ g ∧ bm ≠ g := by
  unfold Det at hd
  refine ⟨?_, ?_, ?_⟩
  · rintro rfl; have := h.hs; rw [hd] at this; simp at this
  · rintro rfl; have := h.hp; rw [hd] at this; simp at this
  · rintro rfl; have := h.hm; rw [hd] at this; simp at this
/-- A row of bools is none of these blocks. -/
theorem own_ne {w : World} {base n : Nat} {v : Value} {xs : List Value} (h : w.ownsRow base 4 1 v n xs) {i : Nat} {o : Obj} (hi : w.heap[i]? = some o) (ho : ∀ cs, o ≠ .cells cs 4 (0, 0)) : v.ownBlock ≠ some i := by
  rcases h.2 with ⟨rfl, _⟩ | ⟨g', cap, cur, rfl, _, hh, _⟩
  · simp [Value.ownBlock]
  · intro he
    have : g' = i := by simpa [Value.ownBlock] using he
    subst this
    rw [hh] at hi
    injection hi with hi
    exact ho cur hi.symm
theorem info4 : (Try.prog.info? 4).map (fun i => (i.zero, i.size, i.bytes)) = some (some (.bool false), 1, 1) := by kernel_rfl

set_option maxHeartbeats 1000000 in
theorem closure_t (g bs bp bm base : Nat) (n m u d : Int) (b : Bool) (v : Value) (k : Nat) (xs : List Value) (w : World) (h : Det w g n m u d b) (hc : Ctx w g bs bp bm) (hn2 : n ≤ 100) (hu : 0 ≤ u) (hu2 : u ≤ n)
    (ho : w.ownsRow base 4 1 v k xs) (hbase : base ≤ w.heap.size) (hbg : base ≤ g) (hk : k ≤ 10000) :
    Calls Try.prog 26 #[v, .bool true, .pointer (some ⟨bs, 0, none⟩), .pointer (some ⟨bp, 0, none⟩)] w fun e w' => ∃ v', e = .returned v' ∧ w'.ownsRow base 4 1 v' (k + 1) (xs ++ [.bool (Plain.stB n m u d b true)]) ∧
      Det w' g n m (Plain.stU n u true) (Plain.stD m d true) (Plain.stB n m u d b true) ∧ Ctx w' g bs bp bm ∧ Below base w w' := by
  obtain ⟨i0, hi, hz0, hz1, hz2⟩ := info_parts info4
  have hs0 := cell_of_one hc.hs
  have hp0 := cell_of_one hc.hp
  have hl := run_look w bm (two g) 2 true 0 (.func (.func 23) #[.pointer (some ⟨g, 0, none⟩)] #[]) hc.hm rfl
  go_enter Try.func26, Try.ntmps26
  go_wp2_with fail
  refine (claim_any g n m u d b w h hn2 hu hu2).mono ?_
  rintro e w1 ⟨rfl, hD, hg⟩
  clear hs0 hp0 hl
  obtain ⟨x1, x2, x3⟩ := hc.ne_det h
  have hc1 : Ctx w1 g bs bp bm := hc.grown hg (by simpa using x1) (by simpa using x2) (by simpa using x3)
  have hp1 := cell_of_one hc1.hp
  obtain ⟨_, _, _, _, c4⟩ := hD.cells
  have hsz : w.heap.size ≤ w1.heap.size := hg.size
  have ho1 : w1.ownsRow base 4 1 v k xs := ho.kept hg (Or.inr (own_ne ho h (fun cs => by simp)))
  have hb1 : Below base w w1 := (Below.refl _ _).grown hg hbase (fun j e => by cases e; exact hbg)
  have HC := Lib.hid hc1; clear hc1
  have HD := Lib.hid hD; clear hD
  go_wp2_with (at_builtin; refine wpList_append_own _ rfl _ _ 24 rfl base 4 i0 (.bool false) 1 1 Try.underlying24 hi hz0 hz1 hz2 rfl (by decide) _ _ _ rfl (ho1.alloc _) ⟨w1.heap.size, 0, none⟩ 1 1 [.bool (Plain.stB n m u d b true)] rfl rfl ?c1 ?c2 ?c3 ?c4 ?c5 ?_; rotate_left 5; intro v' w2 hown2 hg2 _)
  case c1 => exact cell_one_new _ _ _
  case c2 => simp [Value.oneCell']
  case c3 => simp only [maxLen]; omega
  case c4 => omega
  case c5 => simp; omega
  go_ret
  have hC2 := HC.out
  have hD2 := HD.out
  refine ⟨v', rfl, hown2, ?_, ?_, ?_⟩
  · exact (hD2.alloc _).grown hg2 (fun e => own_ne ho1 hD2 (fun cs => by simp) e.symm)
  · exact ⟨(hg2.block bs (by simp; have := lt_of_block hC2.hs; omega) (fun e => own_ne ho1 hC2.hs (fun cs => by simp) e.symm)).trans ((Below.heap_alloc w1 _ bs (lt_of_block hC2.hs)).trans hC2.hs),
      (hg2.block bp (by simp; have := lt_of_block hC2.hp; omega) (fun e => own_ne ho1 hC2.hp (fun cs => by simp) e.symm)).trans ((Below.heap_alloc w1 _ bp (lt_of_block hC2.hp)).trans hC2.hp),
      (hg2.block bm (by simp; have := lt_of_block hC2.hm; omega) (fun e => own_ne ho1 hC2.hm (fun cs => by simp) e.symm)).trans ((Below.heap_alloc w1 _ bm (lt_of_block hC2.hm)).trans hC2.hm)⟩
  · refine (hb1.alloc (by omega) _).grown hg2 (by simp; omega) (fun j e => ?_)
    have e : v.ownBlock = some j := e
    rcases ho1.2 with ⟨rfl, _⟩ | ⟨g', cap, cur, rfl, hge, _⟩
    · exact absurd e (by simp [Value.ownBlock])
    · have hj : g' = j := by simpa [Value.ownBlock] using e
      omega
set_option maxHeartbeats 1000000 in
theorem closure_f (g bs bp bm base : Nat) (n m u d : Int) (b : Bool) (v : Value) (k : Nat) (xs : List Value) (w : World) (h : Det w g n m u d b) (hc : Ctx w g bs bp bm) (hm2 : m ≤ 100) (hd : 0 ≤ d) (hd2 : d ≤ m)
    (ho : w.ownsRow base 4 1 v k xs) (hbase : base ≤ w.heap.size) (hbg : base ≤ g) (hk : k ≤ 10000) :
    Calls Try.prog 26 #[v, .bool false, .pointer (some ⟨bs, 0, none⟩), .pointer (some ⟨bp, 0, none⟩)] w fun e w' => ∃ v', e = .returned v' ∧ w'.ownsRow base 4 1 v' (k + 1) (xs ++ [.bool (Plain.stB n m u d b false)]) ∧
      Det w' g n m (Plain.stU n u false) (Plain.stD m d false) (Plain.stB n m u d b false) ∧ Ctx w' g bs bp bm ∧ Below base w w' := by
  obtain ⟨i0, hi, hz0, hz1, hz2⟩ := info_parts info4
  have hs0 := cell_of_one hc.hs
  have hp0 := cell_of_one hc.hp
  have hl := run_look w bm (two g) 2 false 1 (.func (.func 24) #[.pointer (some ⟨g, 0, none⟩)] #[]) hc.hm rfl
  go_enter Try.func26, Try.ntmps26
  go_wp2_with fail
  refine (miss_any g n m u d b w h hm2 hd hd2).mono ?_
  rintro e w1 ⟨rfl, hD, hg⟩
  clear hs0 hp0 hl
  obtain ⟨x1, x2, x3⟩ := hc.ne_det h
  have hc1 : Ctx w1 g bs bp bm := hc.grown hg (by simpa using x1) (by simpa using x2) (by simpa using x3)
  have hp1 := cell_of_one hc1.hp
  obtain ⟨_, _, _, _, c4⟩ := hD.cells
  have hsz : w.heap.size ≤ w1.heap.size := hg.size
  have ho1 : w1.ownsRow base 4 1 v k xs := ho.kept hg (Or.inr (own_ne ho h (fun cs => by simp)))
  have hb1 : Below base w w1 := (Below.refl _ _).grown hg hbase (fun j e => by cases e; exact hbg)
  have HC := Lib.hid hc1; clear hc1
  have HD := Lib.hid hD; clear hD
  go_wp2_with (at_builtin; refine wpList_append_own _ rfl _ _ 24 rfl base 4 i0 (.bool false) 1 1 Try.underlying24 hi hz0 hz1 hz2 rfl (by decide) _ _ _ rfl (ho1.alloc _) ⟨w1.heap.size, 0, none⟩ 1 1 [.bool (Plain.stB n m u d b false)] rfl rfl ?c1 ?c2 ?c3 ?c4 ?c5 ?_; rotate_left 5; intro v' w2 hown2 hg2 _)
  case c1 => exact cell_one_new _ _ _
  case c2 => simp [Value.oneCell']
  case c3 => simp only [maxLen]; omega
  case c4 => omega
  case c5 => simp; omega
  go_ret
  have hC2 := HC.out
  have hD2 := HD.out
  refine ⟨v', rfl, hown2, ?_, ?_, ?_⟩
  · exact (hD2.alloc _).grown hg2 (fun e => own_ne ho1 hD2 (fun cs => by simp) e.symm)
  · exact ⟨(hg2.block bs (by simp; have := lt_of_block hC2.hs; omega) (fun e => own_ne ho1 hC2.hs (fun cs => by simp) e.symm)).trans ((Below.heap_alloc w1 _ bs (lt_of_block hC2.hs)).trans hC2.hs),
      (hg2.block bp (by simp; have := lt_of_block hC2.hp; omega) (fun e => own_ne ho1 hC2.hp (fun cs => by simp) e.symm)).trans ((Below.heap_alloc w1 _ bp (lt_of_block hC2.hp)).trans hC2.hp),
      (hg2.block bm (by simp; have := lt_of_block hC2.hm; omega) (fun e => own_ne ho1 hC2.hm (fun cs => by simp) e.symm)).trans ((Below.heap_alloc w1 _ bm (lt_of_block hC2.hm)).trans hC2.hm)⟩
  · refine (hb1.alloc (by omega) _).grown hg2 (by simp; omega) (fun j e => ?_)
    have e : v.ownBlock = some j := e
    rcases ho1.2 with ⟨rfl, _⟩ | ⟨g', cap, cur, rfl, hge, _⟩
    · exact absurd e (by simp [Value.ownBlock])
    · have hj : g' = j := by simpa [Value.ownBlock] using e
      omega
theorem closure_any (c : Bool) (g bs bp bm base : Nat) (n m u d : Int) (b : Bool) (v : Value) (k : Nat) (xs : List Value) (w : World) (h : Det w g n m u d b) (hc : Ctx w g bs bp bm) (hv : Plain.chk n m u d b = 0)
    (ho : w.ownsRow base 4 1 v k xs) (hbase : base ≤ w.heap.size) (hbg : base ≤ g) (hk : k ≤ 10000) :
    Calls Try.prog 26 #[v, .bool c, .pointer (some ⟨bs, 0, none⟩), .pointer (some ⟨bp, 0, none⟩)] w fun e w' => ∃ v', e = .returned v' ∧ w'.ownsRow base 4 1 v' (k + 1) (xs ++ [.bool (Plain.stB n m u d b c)]) ∧
      Det w' g n m (Plain.stU n u c) (Plain.stD m d c) (Plain.stB n m u d b c) ∧ Ctx w' g bs bp bm ∧ Below base w w' := by
  obtain ⟨_, a2, _, a4, b1, b2, b3, b4⟩ := Plain.chk_bd n m u d b hv
  cases c
  · exact closure_f g bs bp bm base n m u d b v k xs w h hc a4 b3 b4 ho hbase hbg hk
  · exact closure_t g bs bp bm base n m u d b v k xs w h hc a2 b1 b2 ho hbase hbg hk
end Go.Proofs.Ytffchacanekhgaa
