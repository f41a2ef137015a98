/-
  PLAIN and frames: what the reference's Parse at FIX keeps: the reader, the sentence, the numbers of satellites.
-/
import Derived.Test.YteeekdffbcbamaaGreatDoorRPk
import Derived.Test.YteeekdffbcbamaaGreatDoorFix
import Derived.Test.YteeekdffbcbamaaGreatDoorG6
namespace Go.Proofs.YteeekdffbcbamaaGreatDoor
open Go.RowKit

namespace Plain
theorem prn1_first {s : ByteArray} {e : Nat} {st : St} : prnSt1 s e 0 st = numSt s e st 1 63 2 := by
  unfold prnSt1
  by_cases h : (numSt s e st 1 63 2).er = 0
  · have := num_range (by decide) h
    rw [if_neg (by omega)]
  · rw [fail_no h]
    split <;> rfl
end Plain
theorem rfix_num {b T : Nat} {s : ByteArray} {e : Nat} {st : Plain.St} (ok : Plain.okSt e st) (hs : s.size ≤ 1000000) (hes : e ≤ s.size)
    (j : Nat) (W : World) (lo hi wr : Int) (hB : Plain.fixB j = (lo, hi, wr)) (h : Rs W b T s e (Plain.fixSt s e st j) #[]) :
    Calls Tryz.prog 37 #[.pointer (some ⟨b, 0, none⟩), .int .i64 lo, .int .i64 hi, .int .i64 wr] W fun en w' => ∃ z, en = .returned (.int .i64 z) ∧ ((Plain.fixSt s e st (j + 1)).er = 0 → z = Plain.numO s e (Plain.fixSt s e st j)) ∧ Rs w' b T s e (Plain.fixSt s e st (j + 1)) #[] ∧ W.grownBy w' (some b) := by
  obtain ⟨h1, h2, h3, h4⟩ := Plain.fixB_ok j
  have := rnumber_st b T s e (Plain.fixSt s e st j) #[] W lo hi wr h (Plain.okSt_fix ok j) hs hes (by rw [hB] at h1; exact h1) (by rw [hB] at h2; exact h2) (by rw [hB] at h3; exact h3) (by rw [hB] at h4; exact h4)
  have e1 : Plain.fixSt s e st (j + 1) = Plain.numSt s e (Plain.fixSt s e st j) lo hi wr := by
    show Plain.numSt s e (Plain.fixSt s e st j) (Plain.fixB j).1 (Plain.fixB j).2.1 (Plain.fixB j).2.2 = _
    rw [hB]
  rw [e1]
  exact this
def FixQ (w5 wr : World) (b T : Nat) (s : ByteArray) (e : Nat) (st : Plain.St) (X : Array Value) (j : Nat) : Prop :=
  ∃ X', X'.size = 14 ∧ Rs wr b T s e (Plain.fixSt s e st j) #[] ∧ Blk wr (b + 1) 28 X' ∧ (X'[9]? = X[9]? ∧ X'[0]? = X[0]?) ∧ ((Plain.fixSt s e st j).er = 0 → X' = fixX s e st X j) ∧ Below b w5 wr
theorem FixQ.step {w5 w1 : World} {b T : Nat} {s : ByteArray} {e : Nat} {st : Plain.St} {X X' : Array Value} {j : Nat} {z : Int} (hj : j < 7)
    (hX : X'.size = 14) (h9 : X'[9]? = X[9]? ∧ X'[0]? = X[0]?) (h : (Plain.fixSt s e st j).er = 0 → X' = fixX s e st X j)
    (hz : (Plain.fixSt s e st (j + 1)).er = 0 → z = Plain.numO s e (Plain.fixSt s e st j))
    (hr : Rs w1 b T s e (Plain.fixSt s e st (j + 1)) #[]) (hx : Blk w1 (b + 1) 28 X') (hb : Below b w5 w1) : FixQ w5 (w1.setCell ⟨b + 1, 2 + j, none⟩ (fixV j z)) b T s e st X (j + 1) := by
  refine ⟨X'.setIfInBounds (2 + j) (fixV j z), by rw [Array.size_setIfInBounds, hX], Rs.far hr (show b ≠ b + 1 by omega) _, hx.put _ _ rfl, ?_, fun h0 => ?_, hb.setCell (p := ⟨b + 1, 2 + j, none⟩) (by show b ≤ b + 1; omega) _⟩
  · rw [Array.getElem?_setIfInBounds_ne (by omega), Array.getElem?_setIfInBounds_ne (by omega)]
    exact h9
  · have h1 : (Plain.fixSt s e st j).er = 0 := Plain.num_er h0
    rw [h h1, hz h0]
    rfl
theorem blkCell {w : World} {g t : Nat} {X : Array Value} (h : Blk w g t X) (hX : X.size = 14) {k : Nat} (hk : k < 14) : ∃ v, w.cell? ⟨g, k, none⟩ = some v := by
  obtain ⟨v, hv⟩ := size_get hX k (by omega)
  have h' : w.heap[g]? = some (.cells X t) := h
  exact ⟨v, by simp [World.cell?, h', hv]⟩
/-- The loop over the numbers of satellites. -/
def PrnQ (w wr : World) (b T : Nat) (s : ByteArray) (e : Nat) (fin : Plain.St) (L : List Int) (X2 : Array Value) (many last : Int) (i : Nat) : Prop :=
  ∃ (st : Plain.St) (v : Value) (zs : List Int), Plain.okSt e st ∧ Rs wr b T s e st #[] ∧ Blk wr (b + 1) 28 (X2.setIfInBounds 9 v) ∧ wr.ownsRow (b + 2) 3 1 v zs.length (zs.map (Value.int .i64)) ∧ (zs.length = i ∧ (i = 0 → last = 0) ∧ (0 < i → zs[i - 1]? = some last)) ∧
    Plain.prnSt s e (many.toNat - i) last st = fin ∧ (fin.er = 0 → zs ++ Plain.prnL s e (many.toNat - i) last st = L) ∧ (st.er = 0 → many ≤ 16) ∧ Below b w wr
theorem PrnQ.next {w w9 : World} {b T : Nat} {s : ByteArray} {e : Nat} {fin st : Plain.St} {L zs : List Int} {X2 : Array Value} {last many z : Int} {i : Nat} {v v' : Value} (her : st.er = 0) (hm : (i : Int) < many)
    (hz : (Plain.numSt s e st 1 63 2).er = 0 → z = Plain.numO s e st) (ok : Plain.okSt e st) (hi : zs.length = i ∧ (i = 0 → last = 0) ∧ (0 < i → zs[i - 1]? = some last)) (hE : Plain.prnSt s e (many.toNat - i) last st = fin) (hL : fin.er = 0 → zs ++ Plain.prnL s e (many.toNat - i) last st = L)
    (hb : st.er = 0 → many ≤ 16) (hR : Rs w9 b T s e (Plain.prnSt1 s e last st) #[]) (hX : Blk w9 (b + 1) 28 (X2.setIfInBounds 9 v)) (ho : w9.ownsRow (b + 2) 3 1 v' (zs.length + 1) (zs.map (Value.int .i64) ++ [.int .i64 z])) (hB : Below b w w9) :
    PrnQ w (w9.setCell ⟨b + 1, 9, none⟩ v') b T s e fin L X2 many z (i + 1) := by
  have hk : many.toNat - i = (many.toNat - (i + 1)) + 1 := by omega
  rw [hk] at hE hL
  obtain ⟨p1, p2⟩ := Plain.prn_step her hz hE hL
  have hl := hi.1
  refine ⟨Plain.prnSt1 s e last st, v', zs ++ [z], Plain.okSt_prn1 ok, Rs.far hR (show b ≠ b + 1 by omega) _, hX.put _ _ (Array.setIfInBounds_setIfInBounds ..), ?_, ⟨by rw [List.length_append]; simp; omega, fun h => absurd h (by omega), fun _ => ?_⟩, p1, p2, fun _ => hb her, hB.setCell (p := ⟨b + 1, 9, none⟩) (by show b ≤ b + 1; omega) _⟩
  · rw [List.length_append, List.map_append]
    exact ownsRow_setCell_below ho (by show b + 1 < b + 2; omega) _
  · rw [show i + 1 - 1 = zs.length by omega, List.getElem?_append_right (Nat.le_refl _), Nat.sub_self]
    rfl
theorem rprnGrown {w w9 : World} {b T : Nat} {s : ByteArray} {e n : Nat} {st : Plain.St} {v : Value} {xs : List Value} {o : Obj} (h : Rs w b T s e st #[]) (ho : w.ownsRow (b + 2) 3 1 v n xs) (hg : (w.alloc o).grownBy w9 v.ownBlock) : Rs w9 b T s e st #[] :=
  Rd.grown (Rd.alloc h o) hg (Ne.symm (own_ne ho (by omega)))
theorem rprnBlk {w w9 : World} {b n t : Nat} {X : Array Value} {v : Value} {xs : List Value} {o : Obj} (h : Blk w (b + 1) t X) (ho : w.ownsRow (b + 2) 3 1 v n xs) (hg : (w.alloc o).grownBy w9 v.ownBlock) : Blk w9 (b + 1) t X :=
  (h.alloc o).grown hg (Ne.symm (own_ne ho (by omega)))
theorem rprnBelow {w w8 w9 : World} {b n : Nat} {v : Value} {xs : List Value} {o : Obj} (h : Below b w w8) (hg : (w8.alloc o).grownBy w9 v.ownBlock) (ho : w8.ownsRow (b + 2) 3 1 v n xs) (hlt : b < w8.heap.size) : Below b w w9 :=
  (h.alloc (by omega) o).grown hg (by simp; omega) (fun g e => by have := own_ge ho e; omega)
/-- The last number so far. -/
theorem prnLast {w : World} {base n i : Nat} {v : Value} {zs : List Int} {last : Int} (h : w.ownsRow base 3 1 v n (zs.map (Value.int .i64))) (hn : n = zs.length) (hi : zs.length = i) (h0 : 0 < i) (hl : zs[i - 1]? = some last) :
    ∃ ad c, v = .slice (some ad) i c ∧ w.cell? (ad.add (i - 1)) = some (.int .i64 last) := by
  subst hn
  rcases h.2 with ⟨_, h0⟩ | ⟨g', cap, cur, rfl, _⟩
  · omega
  · exact ⟨⟨g', 0, none⟩, cap, by rw [hi], h.cells (g := g') rfl (i - 1) _ (by rw [List.getElem?_map, hl]; rfl)⟩
theorem blkPrn {w : World} {g t : Nat} {X : Array Value} {v : Value} (h : Blk w g t (X.setIfInBounds 9 v)) (hX : X.size = 14) : w.cell? ⟨g, 9, none⟩ = some v := by
  have h' : w.heap[g]? = some (.cells (X.setIfInBounds 9 v) t) := h
  simp [World.cell?, h', hX]
end Go.Proofs.YteeekdffbcbamaaGreatDoor
