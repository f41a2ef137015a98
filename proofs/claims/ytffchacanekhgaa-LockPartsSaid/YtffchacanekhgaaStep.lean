/-
  WALKS: claim, miss of the detector; step of the reference; the map of two functions.
-/
import Derived.Test.YtffchacanekhgaaNew
import Derived.Test.YtffchacanekhgaaPlainB
import Derived.Laws.EntriesVeiled
import Derived.Carry
import Derived.MapKept
import Derived.WalkLawsBesides
import Derived.BigRegion
import Derived.ChangeAlike
import Derived.Laws.OwnMore
import Derived.Deep.Draws
import Derived.Laws.Rows
import Derived.OneCell
namespace Go.Proofs.Ytffchacanekhgaa
open Go.RowKit

theorem run_checkKey_bool (e : Bool) (k : Bool) (w : World) : (Instr.checkKey e 10000 4 (.bool k)).run Try.prog w = .ok () w := by
  have h4 := Try.underlying4
  have h : ∀ n : Nat, (Instr.checkKey e (n + 1) 4 (.bool k)).run Try.prog w = .ok () w := by
    intro n
    simp [Instr.checkKey, run_underlying h4]
  exact h 9999
theorem run_findKey_bool (k : Bool) (es : List MapEntry) (r : Option (Nat × Value)) (h : Instr.findNow .bool (.bool k) es 0 = some r) (w : World) : (Instr.findKey 4 (.bool k) es).run Try.prog w = .ok r w := by
  simp only [Instr.findKey, Sem.run_bind, run_underlying Try.underlying4, Result.andThen_ok, h, Sem.run_pure]
theorem setBlock_alloc (w : World) (o o' : Obj) : ({ w.alloc o with heap := (w.alloc o).heap.setIfInBounds w.heap.size o' } : World) = w.alloc o' := by
  have e : (w.heap.push o).setIfInBounds w.heap.size o' = w.heap.push o' := by
    apply Array.ext_getElem?
    intro i
    rw [Array.getElem?_setIfInBounds, Array.getElem?_push, Array.getElem?_push, Array.size_push]
    by_cases h : w.heap.size = i
    · subst h
      simp
    · rw [if_neg h, if_neg (by omega), if_neg (by omega)]
  show ({ w with heap := (w.heap.push o).setIfInBounds w.heap.size o' } : World) = { w with heap := w.heap.push o' }
  rw [e]
theorem run_upd_new (w : World) (es : Array MapEntry) (c : Nat) (k : Bool) (F : Value) (hno : Instr.findNow .bool (.bool k) es.toList 0 = some none) :
    (Instr.mapUpdate 47 (.map (some w.heap.size)) (.bool k) F).run Try.prog (w.alloc (.map es c)) = .ok () (w.alloc (.map (es.push { key := .bool k, val := F, born := c }) (c + 1))) := by
  have hg : (w.alloc (.map es c)).heap[w.heap.size]? = some (.map es c) := heap_alloc_new w _
  simp only [Instr.mapUpdate, Sem.run_bind, run_underlying Try.underlying47, Result.andThen_ok, MapKept.run_getObj_map hg, run_checkKey_bool, run_findKey_bool k es.toList none hno]
  rw [MapKept.run_setObj_map _ hg, setBlock_alloc]
theorem run_look (w : World) (r : Nat) (es : Array MapEntry) (c : Nat) (k : Bool) (i : Nat) (F : Value) (hg : w.heap[r]? = some (.map es c)) (hf : Instr.findNow .bool (.bool k) es.toList 0 = some (some (i, F))) :
    (Instr.lookup 47 (.map (some r)) (.bool k) false).run Try.prog w = .ok F w := by
  simp only [Instr.lookup, Sem.run_bind, run_underlying Try.underlying47, Result.andThen_ok, MapKept.run_getObj_map hg, run_checkKey_bool, run_findKey_bool k es.toList (some (i, F)) hf, Sem.run_pure]
  simp

/-- A detector's block. -/
def Det (w : World) (g : Nat) (n m u d : Int) (b : Bool) : Prop := w.heap[g]? = some (.cells #[.int .i64 n, .int .i64 m, .int .i64 u, .int .i64 d, .bool b] 46 (0, 0))
section
variable {w w' : World} {g : Nat} {n m u d : Int} {b : Bool}
theorem Det.cells (h : Det w g n m u d b) : w.cell? ⟨g, 0, none⟩ = some (.int .i64 n) ∧ w.cell? ⟨g, 1, none⟩ = some (.int .i64 m) ∧ w.cell? ⟨g, 2, none⟩ = some (.int .i64 u) ∧ w.cell? ⟨g, 3, none⟩ = some (.int .i64 d) ∧ w.cell? ⟨g, 4, none⟩ = some (.bool b) := by
  unfold Det at h
  refine ⟨?_, ?_, ?_, ?_, ?_⟩ <;> simp [World.cell?, h]
theorem Det.frozen (h : Det w g n m u d b) (i : Nat) : w.frozen? ⟨g, i, none⟩ = false := by
  unfold Det at h
  simp [World.frozen?, h]
theorem Det.lt (h : Det w g n m u d b) : g < w.heap.size := lt_of_block h
theorem Det.below {B : Nat} (h : Det w g n m u d b) (hb : Below B w w') (hg : g < B) : Det w' g n m u d b := (hb.block g hg).trans h
theorem Det.grown {row : Option Nat} (h : Det w g n m u d b) (hb : w.grownBy w' row) (hg : some g ≠ row) : Det w' g n m u d b := (hb.block g h.lt hg).trans h
theorem Det.new (w : World) (n m u d : Int) (b : Bool) : Det (w.alloc (.cells #[.int .i64 n, .int .i64 m, .int .i64 u, .int .i64 d, .bool b] 46)) w.heap.size n m u d b := heap_alloc_new w _
theorem Det.drewN (h : Det w g n m u d b) (k : Nat) : Det (w.drewN k) g n m u d b := h
theorem Det.alloc (h : Det w g n m u d b) (o : Obj) : Det (w.alloc o) g n m u d b := (Below.heap_alloc w o g h.lt).trans h
theorem Det.set3 (h : Det w g n m u d b) (u' d' : Int) (b' : Bool) : Det (((w.setCell ⟨g, 2, none⟩ (.int .i64 u')).setCell ⟨g, 3, none⟩ (.int .i64 d')).setCell ⟨g, 4, none⟩ (.bool b')) g n m u' d' b' := by
  unfold Det at h ⊢
  simp [World.setCell, Array.getElem?_modify, h]
theorem grown_set3 (w : World) (g : Nat) (v2 v3 v4 : Value) (k : Nat) : w.grownBy ((((w.setCell ⟨g, 2, none⟩ v2).setCell ⟨g, 3, none⟩ v3).setCell ⟨g, 4, none⟩ v4).drewN k) (some g) := by
  refine ⟨rfl, rfl, rfl, by simp [World.setCell, World.drewN], fun i hi hne => ?_⟩
  have hn : i ≠ g := fun e => hne (by rw [e])
  exact ((Below.heap_setCell _ ⟨g, 4, none⟩ v4 i hn).trans (Below.heap_setCell _ ⟨g, 3, none⟩ v3 i hn)).trans (Below.heap_setCell _ ⟨g, 2, none⟩ v2 i hn)
theorem drew2 (w : World) : w.drew.drew = w.drewN 2 := rfl
end

theorem claim_lo_t (g : Nat) (n m u d : Int) (w : World) (h : Det w g n m u d true) (hn2 : n ≤ 100) (hu : 0 ≤ u) (hs : u + 1 < n) :
    Calls Try.prog 23 #[.pointer (some ⟨g, 0, none⟩)] w fun e w' => e = .returned (.tuple #[]) ∧ Det w' g n m (u + 1) 0 true ∧ w.grownBy w' (some g) := by
  obtain ⟨c0, c1, c2, c3, c4⟩ := h.cells
  have hf := h.frozen
  have HD := Lib.hid h; clear h
  go_enter Try.func23, Try.ntmps23
  go_wp2_with fail
  go_region
  go_wp2_with fail
  go_region
  go_end0
  exact ⟨rfl, (HD.out.set3 _ _ _).drewN 2, grown_set3 w g _ _ _ 2⟩

theorem claim_hi_t (g : Nat) (n m u d : Int) (w : World) (h : Det w g n m u d true) (hn2 : n ≤ 100) (hu : 0 ≤ u) (hu2 : u ≤ n) (hs : n ≤ u + 1) :
    Calls Try.prog 23 #[.pointer (some ⟨g, 0, none⟩)] w fun e w' => e = .returned (.tuple #[]) ∧ Det w' g n m n 0 true ∧ w.grownBy w' (some g) := by
  obtain ⟨c0, c1, c2, c3, c4⟩ := h.cells
  have hf := h.frozen
  have HD := Lib.hid h; clear h
  have hq : (n == n) = true := beq_iff_eq.2 rfl
  go_enter Try.func23, Try.ntmps23
  go_wp2_with fail
  go_region
  go_wp2_with fail
  go_region
  go_end0
  exact ⟨rfl, (HD.out.set3 _ _ _).drewN 2, grown_set3 w g _ _ _ 2⟩

theorem miss_lo_t (g : Nat) (n m u d : Int) (w : World) (h : Det w g n m u d true) (hm2 : m ≤ 100) (hd : 0 ≤ d) (hs : d + 1 < m) :
    Calls Try.prog 24 #[.pointer (some ⟨g, 0, none⟩)] w fun e w' => e = .returned (.tuple #[]) ∧ Det w' g n m 0 (d + 1) true ∧ w.grownBy w' (some g) := by
  obtain ⟨c0, c1, c2, c3, c4⟩ := h.cells
  have hf := h.frozen
  have HD := Lib.hid h; clear h
  go_enter Try.func24, Try.ntmps24
  go_wp2_with fail
  go_region
  go_wp2_with fail
  go_region
  go_end0
  exact ⟨rfl, (HD.out.set3 _ _ _).drewN 2, grown_set3 w g _ _ _ 2⟩

theorem miss_hi_t (g : Nat) (n m u d : Int) (w : World) (h : Det w g n m u d true) (hm2 : m ≤ 100) (hd : 0 ≤ d) (hd2 : d ≤ m) (hs : m ≤ d + 1) :
    Calls Try.prog 24 #[.pointer (some ⟨g, 0, none⟩)] w fun e w' => e = .returned (.tuple #[]) ∧ Det w' g n m 0 m false ∧ w.grownBy w' (some g) := by
  obtain ⟨c0, c1, c2, c3, c4⟩ := h.cells
  have hf := h.frozen
  have HD := Lib.hid h; clear h
  go_enter Try.func24, Try.ntmps24
  go_wp2_with fail
  go_region
  go_wp2_with fail
  go_region
  go_end0
  exact ⟨rfl, (HD.out.set3 _ _ _).drewN 2, grown_set3 w g _ _ _ 2⟩

theorem claim_lo_f (g : Nat) (n m u d : Int) (w : World) (h : Det w g n m u d false) (hn2 : n ≤ 100) (hu : 0 ≤ u) (hs : u + 1 < n) :
    Calls Try.prog 23 #[.pointer (some ⟨g, 0, none⟩)] w fun e w' => e = .returned (.tuple #[]) ∧ Det w' g n m (u + 1) 0 false ∧ w.grownBy w' (some g) := by
  obtain ⟨c0, c1, c2, c3, c4⟩ := h.cells
  have hf := h.frozen
  have HD := Lib.hid h; clear h
  have hq : (u + 1 == n) = false := beq_eq_false_iff_ne.2 (by omega)
  go_enter Try.func23, Try.ntmps23
  go_wp2_with fail
  go_region
  go_wp2_with fail
  go_region
  go_end0
  exact ⟨rfl, (HD.out.set3 _ _ _).drewN 2, grown_set3 w g _ _ _ 2⟩

theorem claim_hi_f (g : Nat) (n m u d : Int) (w : World) (h : Det w g n m u d false) (hn2 : n ≤ 100) (hu : 0 ≤ u) (hu2 : u ≤ n) (hs : n ≤ u + 1) :
    Calls Try.prog 23 #[.pointer (some ⟨g, 0, none⟩)] w fun e w' => e = .returned (.tuple #[]) ∧ Det w' g n m n 0 true ∧ w.grownBy w' (some g) := by
  obtain ⟨c0, c1, c2, c3, c4⟩ := h.cells
  have hf := h.frozen
  have HD := Lib.hid h; clear h
  have hq : (n == n) = true := beq_iff_eq.2 rfl
  go_enter Try.func23, Try.ntmps23
  go_wp2_with fail
  go_region
  go_wp2_with fail
  go_region
  go_end0
  exact ⟨rfl, (HD.out.set3 _ _ _).drewN 2, grown_set3 w g _ _ _ 2⟩

theorem miss_lo_f (g : Nat) (n m u d : Int) (w : World) (h : Det w g n m u d false) (hm2 : m ≤ 100) (hd : 0 ≤ d) (hs : d + 1 < m) :
    Calls Try.prog 24 #[.pointer (some ⟨g, 0, none⟩)] w fun e w' => e = .returned (.tuple #[]) ∧ Det w' g n m 0 (d + 1) false ∧ w.grownBy w' (some g) := by
  obtain ⟨c0, c1, c2, c3, c4⟩ := h.cells
  have hf := h.frozen
  have HD := Lib.hid h; clear h
  go_enter Try.func24, Try.ntmps24
  go_wp2_with fail
  go_region
  go_wp2_with fail
  go_region
  go_end0
  exact ⟨rfl, (HD.out.set3 _ _ _).drewN 2, grown_set3 w g _ _ _ 2⟩

theorem miss_hi_f (g : Nat) (n m u d : Int) (w : World) (h : Det w g n m u d false) (hm2 : m ≤ 100) (hd : 0 ≤ d) (hd2 : d ≤ m) (hs : m ≤ d + 1) :
    Calls Try.prog 24 #[.pointer (some ⟨g, 0, none⟩)] w fun e w' => e = .returned (.tuple #[]) ∧ Det w' g n m 0 m false ∧ w.grownBy w' (some g) := by
  obtain ⟨c0, c1, c2, c3, c4⟩ := h.cells
  have hf := h.frozen
  have HD := Lib.hid h; clear h
  go_enter Try.func24, Try.ntmps24
  go_wp2_with fail
  go_region
  go_wp2_with fail
  go_region
  go_end0
  exact ⟨rfl, (HD.out.set3 _ _ _).drewN 2, grown_set3 w g _ _ _ 2⟩

theorem claim_any (g : Nat) (n m u d : Int) (b : Bool) (w : World) (h : Det w g n m u d b) (hn2 : n ≤ 100) (hu : 0 ≤ u) (hu2 : u ≤ n) :
    Calls Try.prog 23 #[.pointer (some ⟨g, 0, none⟩)] w fun e w' => e = .returned (.tuple #[]) ∧ Det w' g n m (Plain.stU n u true) (Plain.stD m d true) (Plain.stB n m u d b true) ∧ w.grownBy w' (some g) := by
  have e2 : Plain.stD m d true = 0 := rfl
  have e3 : Plain.stB n m u d b true = (b || Plain.stU n u true == n) := rfl
  by_cases hs : u + 1 < n
  · have e1 : Plain.stU n u true = u + 1 := by show (if u + 1 ≤ n then u + 1 else n) = _; rw [if_pos (by omega)]
    have hne : (u + 1 == n) = false := beq_eq_false_iff_ne.2 (by omega)
    rw [e3, e1, e2, hne]
    cases b
    · exact claim_lo_f g n m u d w h hn2 hu hs
    · exact claim_lo_t g n m u d w h hn2 hu hs
  · have e1 : Plain.stU n u true = n := by show (if u + 1 ≤ n then u + 1 else n) = _; split <;> omega
    rw [e3, e1, e2, beq_self_eq_true, Bool.or_true]
    cases b
    · exact claim_hi_f g n m u d w h hn2 hu hu2 (by omega)
    · exact claim_hi_t g n m u d w h hn2 hu hu2 (by omega)
theorem miss_any (g : Nat) (n m u d : Int) (b : Bool) (w : World) (h : Det w g n m u d b) (hm2 : m ≤ 100) (hd : 0 ≤ d) (hd2 : d ≤ m) :
    Calls Try.prog 24 #[.pointer (some ⟨g, 0, none⟩)] w fun e w' => e = .returned (.tuple #[]) ∧ Det w' g n m (Plain.stU n u false) (Plain.stD m d false) (Plain.stB n m u d b false) ∧ w.grownBy w' (some g) := by
  have e1 : Plain.stU n u false = 0 := rfl
  have e3 : Plain.stB n m u d b false = (b && decide (Plain.stD m d false < m)) := rfl
  by_cases hs : d + 1 < m
  · have e2 : Plain.stD m d false = d + 1 := by show (if d + 1 ≤ m then d + 1 else m) = _; rw [if_pos (by omega)]
    have hne : decide (d + 1 < m) = true := decide_eq_true hs
    rw [e3, e1, e2, hne, Bool.and_true]
    cases b
    · exact miss_lo_f g n m u d w h hm2 hd hs
    · exact miss_lo_t g n m u d w h hm2 hd hs
  · have e2 : Plain.stD m d false = m := by show (if d + 1 ≤ m then d + 1 else m) = _; split <;> omega
    have hne : decide (m < m) = false := decide_eq_false (by omega)
    rw [e3, e1, e2, hne, Bool.and_false]
    cases b
    · exact miss_hi_f g n m u d w h hm2 hd hd2 (by omega)
    · exact miss_hi_t g n m u d w h hm2 hd hd2 (by omega)

end Go.Proofs.Ytffchacanekhgaa
