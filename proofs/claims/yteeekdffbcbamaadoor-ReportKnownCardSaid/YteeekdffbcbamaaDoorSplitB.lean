/-
  WALKS: the body of Split's loop (package report): what has come so far lies in two boxes.
-/
import Derived.Test.YteeekdffbcbamaaDoorPieces
import Derived.Test.YteeekdffbcbamaaDoorOfD
import Derived.Test.YteeekdffbcbamaaDoorParseZ
import Derived.Test.YteeekdffbcbamaaDoorG1
import Derived.Test.YteeekdffbcbamaaDoorG6
import Derived.Test.YteeekdffbcbamaaDoorG5
import Derived.Maps.OwnIn
import Derived.Maps.AppendAt
namespace Go.Proofs.YteeekdffbcbamaaDoor
open Go.RowKit Go.Shelf
attribute [local go_sem] Oper.semAt_some

theorem infoSn : (Tryd.prog.info? 31).map (fun i => (i.zero, i.size, i.bytes)) = some (some (.agg #[.int .i64 0, .int .i64 0, .bool false, .int .i64 0, .int .i64 0, .int .i64 0, .int .i64 0, .int .i64 0, .int .i64 0, .slice none 0 0, .int .i64 0, .int .i64 0, .int .i64 0, .string ⟨#[]⟩]), 14, 136) := by kernel_rfl
/-- The cells of sentences, one behind the other. -/
def rowCells (es : List (Plain.Sn × Value)) : List Value := es.flatMap fun e => (snCells e.1 e.2).toList
/-- Sentences that lie in a slice v2, the numbers bad in a slice v3, all in blocks from B on. -/
def SnR (B : Nat) (W : World) (v2 v3 : Value) (es : List (Plain.Sn × Value)) (bad : List Int) : Prop :=
  W.ownsRow B 31 14 v2 es.length (rowCells es) ∧ W.ownsRow B 3 1 v3 bad.length (bad.map (Value.int .i64)) ∧
    ∀ e ∈ es, W.ownsRow B 3 1 e.2 e.1.prns.length (e.1.prns.map (Value.int .i64)) ∧ (e.2.ownBlock = none ∨ e.2.ownBlock ≠ v3.ownBlock)
theorem own_keeps {W W' : World} {base : Nat} {e : TypeId} {size n : Nat} {v : Value} {xs : List Value} (h : W.ownsRow base e size v n xs) {row : Option Nat} (hg : W.grownBy W' row) (hr : ∀ r, row = some r → v.ownBlock ≠ some r) : W'.ownsRow base e size v n xs := by
  refine h.kept hg ?_
  rcases h.2 with ⟨rfl, _⟩ | ⟨g, cap, cur, rfl, _⟩
  · exact Or.inl rfl
  · exact Or.inr (fun e => hr g e.symm rfl)
theorem own_type' {W : World} {base : Nat} {e : TypeId} {size n : Nat} {v : Value} {xs : List Value} (h : W.ownsRow base e size v n xs) {g : Nat} (hg : v.ownBlock = some g) : ∃ cs, W.heap[g]? = some (.cells cs e (0, 0)) := by
  rcases h.2 with ⟨rfl, _⟩ | ⟨g', cap, cur, rfl, _, hb, _⟩
  · exact absurd hg (by simp [Value.ownBlock])
  · obtain rfl : g' = g := by simpa [Value.ownBlock] using hg
    exact ⟨cur, hb⟩
theorem own_types {W : World} {b1 b2 : Nat} {e1 e2 : TypeId} (hne : e1 ≠ e2) {s1 s2 n1 n2 : Nat} {v1 v2 : Value} {x1 x2 : List Value} (h1 : W.ownsRow b1 e1 s1 v1 n1 x1) (h2 : W.ownsRow b2 e2 s2 v2 n2 x2) {g : Nat} (hg : v1.ownBlock = some g) : v2.ownBlock ≠ some g := by
  intro h
  obtain ⟨c1, k1⟩ := own_type' h1 hg
  obtain ⟨c2, k2⟩ := own_type' h2 h
  rw [k1] at k2
  injection k2 with k2
  injection k2 with _ k3 _
  exact hne k3
/-- A turn of a block that none of them owns. -/
theorem SnR.keeps {B : Nat} {W W' : World} {v2 v3 : Value} {es : List (Plain.Sn × Value)} {bad : List Int} (h : SnR B W v2 v3 es bad) {row : Option Nat} (hg : W.grownBy W' row) (h2 : ∀ r, row = some r → v2.ownBlock ≠ some r) (h3 : ∀ r, row = some r → v3.ownBlock ≠ some r)
    (he : ∀ e ∈ es, ∀ r, row = some r → e.2.ownBlock ≠ some r) : SnR B W' v2 v3 es bad :=
  ⟨own_keeps h.1 hg h2, own_keeps h.2.1 hg h3, fun e hm => ⟨own_keeps (h.2.2 e hm).1 hg (he e hm), (h.2.2 e hm).2⟩⟩
theorem SnR.low {B : Nat} {W W' : World} {v2 v3 : Value} {es : List (Plain.Sn × Value)} {bad : List Int} (h : SnR B W v2 v3 es bad) {row : Option Nat} (hg : W.grownBy W' row) (hr : ∀ r, row = some r → r < B) : SnR B W' v2 v3 es bad :=
  h.keeps hg (fun r e => own_ne h.1 (hr r e)) (fun r e => own_ne h.2.1 (hr r e)) (fun e hm r hr' => own_ne (h.2.2 e hm).1 (hr r hr'))
theorem SnR.noncells {B : Nat} {W W' : World} {v2 v3 : Value} {es : List (Plain.Sn × Value)} {bad : List Int} (h : SnR B W v2 v3 es bad) {row : Option Nat} (hg : W.grownBy W' row) (hr : ∀ r, row = some r → ∃ o : Obj, W.heap[r]? = some o ∧ o.isCells = false) : SnR B W' v2 v3 es bad := by
  have aux : ∀ {e : TypeId} {s n : Nat} {v : Value} {xs : List Value}, W.ownsRow B e s v n xs → ∀ r, row = some r → v.ownBlock ≠ some r := by
    intro e s n v xs ho r hr' hv
    obtain ⟨o, k1, k2⟩ := hr r hr'
    obtain ⟨cs, k3⟩ := own_type' ho hv
    rw [k1] at k3
    injection k3 with k3
    subst k3
    cases k2
  exact h.keeps hg (aux h.1) (aux h.2.1) (fun e hm => aux (h.2.2 e hm).1)
/-- What has come so far. -/
def SplI (w : World) (pre : List (Nat × ByteArray)) (W : World) : Prop :=
  ∃ v2 v3 es, Boxed W w.heap.size 25 v2 ∧ Boxed W (w.heap.size + 1) 26 v3 ∧ SnR (w.heap.size + 3) W v2 v3 es (Plain.badL pre) ∧ es.map (·.1) = Plain.goodL pre ∧ Below w.heap.size w W ∧ w.heap.size + 3 ≤ W.heap.size
theorem splI_own (w : World) (B : Nat) (hB : w.heap.size + 3 ≤ B) : BoxOwn B (w.heap.size + 2) (SplI w) := by
  rintro pre W W' row ⟨v2, v3, es, h2, h3, hS, hE, hb, hsz⟩ hg hr
  have hlow : ∀ r, row = some r → r ≠ w.heap.size ∧ r ≠ w.heap.size + 1 := by
    intro r e
    rcases hr r e with rfl | ⟨k, _⟩ <;> omega
  refine ⟨v2, v3, es, h2.kept hg (fun e => (hlow _ e.symm).1 rfl), h3.kept hg (fun e => (hlow _ e.symm).2 rfl), ?_, hE, hb.grown hg hb.size (fun r e => by rcases hr r e with rfl | ⟨k, _⟩ <;> omega), Nat.le_trans hsz hg.size⟩
  by_cases hrow : ∃ r, row = some r ∧ r = w.heap.size + 2
  · obtain ⟨r, e, rfl⟩ := hrow
    exact hS.low hg (fun r' e' => by rw [e] at e'; injection e' with e'; omega)
  · refine hS.noncells hg (fun r e => ?_)
    rcases hr r e with h | ⟨_, o, h⟩
    · exact absurd ⟨r, e, h⟩ hrow
    · exact ⟨o, h⟩
theorem cells_new_at (w : World) (C : Array Value) (t : TypeId) (g : Nat) (hg : g = w.heap.size) : ∀ (j : Nat) (u : Value), C.toList[j]? = some u → (w.alloc (.cells C t)).cell? ((⟨g, 0, none⟩ : Addr).add j) = some u := by
  subst hg
  intro j u hj
  have e : (⟨w.heap.size, 0, none⟩ : Addr).add j = ⟨w.heap.size, j, none⟩ := by simp [Addr.add]; exact Eq.symm
  rw [e]
  have := (Blk.new_at (w := w) (t := t) (cs := C) rfl).cell j
  rw [this]
  simpa using hj
theorem SnR.below {B : Nat} {W W' : World} {v2 v3 : Value} {es : List (Plain.Sn × Value)} {bad : List Int} (h : SnR B W v2 v3 es bad) (hb : Below W.heap.size W W') : SnR B W' v2 v3 es bad :=
  h.low (grown_below hb) (fun r e => by cases e)
theorem keepsFrom_below {B : Nat} {W W' : World} (hb : Below W.heap.size W W') : KeepsFrom B W W' :=
  ⟨hb.size, fun k _ _ hk _ => (hb.block k (Array.getElem?_eq_some_iff.1 hk).1).trans hk⟩
theorem keepsFrom_own {B : Nat} {W W' : World} {base : Nat} {e : TypeId} {s n : Nat} {v : Value} {xs : List Value} (ho : W.ownsRow base e s v n xs) (hg : W.grownBy W' v.ownBlock) : KeepsFrom B W W' :=
  (KeepsOthers.of_grownBy hg (fun j _ hj hk => by
    obtain ⟨cs, k⟩ := own_type' ho hj
    rw [k] at hk
    injection hk with hk
    subst hk
    rfl)).from B
theorem own_block_lt {W : World} {base : Nat} {e : TypeId} {s n : Nat} {v : Value} {xs : List Value} (ho : W.ownsRow base e s v n xs) {g : Nat} (hg : v.ownBlock = some g) : g < W.heap.size := by
  obtain ⟨cs, k⟩ := own_type' ho hg
  exact (Array.getElem?_eq_some_iff.1 k).1
theorem rowCells_snoc (es : List (Plain.Sn × Value)) (x : Plain.Sn) (v : Value) : rowCells (es ++ [(x, v)]) = rowCells es ++ (snCells x v).toList := by simp [rowCells]
section
variable {w W w5 w8 w9 : World} {pre : List (Nat × ByteArray)} {i : Nat} {p : ByteArray} {v2 v3 v5 v' : Value} {es : List (Plain.Sn × Value)} {sn : Plain.Sn}
theorem splI_good (h2 : Boxed W w.heap.size 25 v2) (h3 : Boxed W (w.heap.size + 1) 26 v3) (hS : SnR (w.heap.size + 3) W v2 v3 es (Plain.badL pre)) (hE : es.map (·.1) = Plain.goodL pre) (hb : Below w.heap.size w W) (hsz : w.heap.size + 3 ≤ W.heap.size)
    (hb5 : Below W.heap.size W w5) (ho5 : w5.ownsRow W.heap.size 3 1 v5 sn.prns.length (sn.prns.map (Value.int .i64))) (hb8 : Below w5.heap.size w5 w8) (hg : w8.grownBy w9 v2.ownBlock)
    (hown : w9.ownsRow (w.heap.size + 3) 31 14 v' (es.length + 1) (rowCells es ++ (snCells sn v5).toList)) (hgood : Plain.goodL (pre ++ [(i, p)]) = Plain.goodL pre ++ [sn] ∧ Plain.badL (pre ++ [(i, p)]) = Plain.badL pre) :
    boxPost (w.heap.size + 3) (w.heap.size + 2) (SplI w) (pre ++ [(i, p)]) W .normal { tmps := #[], defers := [] } (w9.setCell ⟨w.heap.size, 0, none⟩ v') := by
  have hb8' : Below W.heap.size W w8 := hb5.trans (hb8.mono hb5.size)
  have hS8 : SnR (w.heap.size + 3) w8 v2 v3 es (Plain.badL pre) := hS.below hb8'
  have ho8 := own_less (base' := w.heap.size + 3) (own_below ho5 hb8) hsz
  have h28 : Boxed w8 w.heap.size 25 v2 := (hb8'.block _ h2.lt).trans h2
  have h38 : Boxed w8 (w.heap.size + 1) 26 v3 := (hb8'.block _ h3.lt).trans h3
  have hne : ∀ k, k < w.heap.size + 3 → some k ≠ v2.ownBlock := fun k hk => Ne.symm (own_ne hS8.1 hk)
  have h29 : Boxed w9 w.heap.size 25 v2 := h28.kept hg (hne _ (by omega))
  have h39 : Boxed w9 (w.heap.size + 1) 26 v3 := h38.kept hg (hne _ (by omega))
  have hx9 : w9.heap[w.heap.size + 2]? = W.heap[w.heap.size + 2]? := (hg.block _ (Nat.lt_of_lt_of_le (by omega) hb8'.size) (hne _ (by omega))).trans (hb8'.block _ (by omega))
  have hk8 : KeepsFrom (w.heap.size + 3) W w8 := keepsFrom_below hb8'
  have hk9 : KeepsFrom (w.heap.size + 3) w8 w9 := keepsFrom_own hS8.1 hg
  have hv3 : ∀ r, v2.ownBlock = some r → v3.ownBlock ≠ some r := fun r hr => own_types (by decide) hS8.1 hS8.2.1 hr
  have hv5 : ∀ r, v2.ownBlock = some r → v5.ownBlock ≠ some r := fun r hr => own_types (by decide) hS8.1 ho8 hr
  have hS9 : SnR (w.heap.size + 3) w9 v' v3 (es ++ [(sn, v5)]) (Plain.badL pre) := by
    refine ⟨?_, own_keeps hS8.2.1 hg hv3, ?_⟩
    · rw [rowCells_snoc, List.length_append]
      exact hown
    · intro e he
      rcases List.mem_append.1 he with he | he
      · exact ⟨own_keeps (hS8.2.2 e he).1 hg (fun r hr => own_types (by decide) hS8.1 (hS8.2.2 e he).1 hr), (hS8.2.2 e he).2⟩
      · obtain rfl : e = (sn, v5) := by simpa using he
        refine ⟨own_keeps ho8 hg hv5, ?_⟩
        by_cases hn : v5.ownBlock = none
        · exact Or.inl hn
        · obtain ⟨g5, hg5⟩ := Option.ne_none_iff_exists'.1 hn
          refine Or.inr (fun e => ?_)
          have h5 := own_ge ho5 hg5
          have h3' := own_block_lt hS.2.1 (e.symm.trans hg5)
          omega
  have hB9 : Below w.heap.size w w9 := (hb.trans (hb8'.mono hb.size)).grown hg (Nat.le_trans hb.size hb8'.size) (fun r e => by have := own_ge hS8.1 e; omega)
  refine ⟨(hk8.trans hk9).trans ((KeepsOthers.setCell _ _ _).from _), (Below.heap_setCell _ _ _ _ (by simp)).trans hx9, v', v3, es ++ [(sn, v5)], h29.set v', ?_, ?_, ?_, hB9.setCell (Nat.le_refl _) _, ?_⟩
  · exact h39.kept (grownBy_setCell' w9 w.heap.size v') (by simp)
  · rw [hgood.2]
    exact hS9.low (grownBy_setCell' w9 w.heap.size v') (fun r e => by cases e; omega)
  · rw [hgood.1, List.map_append, hE]; rfl
  · have := (grownBy_setCell' w9 w.heap.size v').size
    have := hg.size
    have := hb8'.size
    omega
theorem splI_bad (h2 : Boxed W w.heap.size 25 v2) (h3 : Boxed W (w.heap.size + 1) 26 v3) (hS : SnR (w.heap.size + 3) W v2 v3 es (Plain.badL pre)) (hE : es.map (·.1) = Plain.goodL pre) (hb : Below w.heap.size w W) (hsz : w.heap.size + 3 ≤ W.heap.size)
    (hb8' : Below W.heap.size W w8) (hg : w8.grownBy w9 v3.ownBlock)
    (hown : w9.ownsRow (w.heap.size + 3) 3 1 v' ((Plain.badL pre).length + 1) ((Plain.badL pre).map (Value.int .i64) ++ [.int .i64 (i : Int)])) (hat : v'.ownBlock = v3.ownBlock ∨ v'.ownBlock = some w8.heap.size)
    (hbad : Plain.goodL (pre ++ [(i, p)]) = Plain.goodL pre ∧ Plain.badL (pre ++ [(i, p)]) = Plain.badL pre ++ [(i : Int)]) :
    boxPost (w.heap.size + 3) (w.heap.size + 2) (SplI w) (pre ++ [(i, p)]) W .normal { tmps := #[], defers := [] } (w9.setCell ⟨w.heap.size + 1, 0, none⟩ v') := by
  have hS8 : SnR (w.heap.size + 3) w8 v2 v3 es (Plain.badL pre) := hS.below hb8'
  have h28 : Boxed w8 w.heap.size 25 v2 := (hb8'.block _ h2.lt).trans h2
  have h38 : Boxed w8 (w.heap.size + 1) 26 v3 := (hb8'.block _ h3.lt).trans h3
  have hne : ∀ k, k < w.heap.size + 3 → some k ≠ v3.ownBlock := fun k hk => Ne.symm (own_ne hS8.2.1 hk)
  have h29 : Boxed w9 w.heap.size 25 v2 := h28.kept hg (hne _ (by omega))
  have h39 : Boxed w9 (w.heap.size + 1) 26 v3 := h38.kept hg (hne _ (by omega))
  have hx9 : w9.heap[w.heap.size + 2]? = W.heap[w.heap.size + 2]? := (hg.block _ (Nat.lt_of_lt_of_le (by omega) hb8'.size) (hne _ (by omega))).trans (hb8'.block _ (by omega))
  have hk8 : KeepsFrom (w.heap.size + 3) W w8 := keepsFrom_below hb8'
  have hk9 : KeepsFrom (w.heap.size + 3) w8 w9 := keepsFrom_own hS8.2.1 hg
  have hS9 : SnR (w.heap.size + 3) w9 v2 v' es (Plain.badL pre ++ [(i : Int)]) := by
    refine ⟨own_keeps hS8.1 hg (fun r hr => own_types (by decide) hS8.2.1 hS8.1 hr), ?_, ?_⟩
    · rw [List.length_append, List.map_append]
      exact hown
    · intro e he
      have h8 := hS8.2.2 e he
      have hn : ∀ r, v3.ownBlock = some r → e.2.ownBlock ≠ some r := by
        intro r hr h
        rcases h8.2 with h' | h'
        · rw [h'] at h; cases h
        · exact h' (h.trans hr.symm)
      refine ⟨own_keeps h8.1 hg hn, ?_⟩
      by_cases hz : e.2.ownBlock = none
      · exact Or.inl hz
      · refine Or.inr (fun h => ?_)
        obtain ⟨ge, hge⟩ := Option.ne_none_iff_exists'.1 hz
        rcases hat with h' | h'
        · exact hn ge ((h'.symm.trans h.symm).trans hge) hge
        · have h4 := own_block_lt h8.1 hge
          have h5 : some ge = some w8.heap.size := hge.symm.trans (h.trans h')
          injection h5 with h5
          omega
  have hB9 : Below w.heap.size w w9 := (hb.trans (hb8'.mono hb.size)).grown hg (Nat.le_trans hb.size hb8'.size) (fun r e => by have := own_ge hS8.2.1 e; omega)
  refine ⟨(hk8.trans hk9).trans ((KeepsOthers.setCell _ _ _).from _), (Below.heap_setCell _ _ _ _ (by simp)).trans hx9, v2, v', es, ?_, h39.set v', ?_, ?_, hB9.setCell (by simp) _, ?_⟩
  · exact h29.kept (grownBy_setCell' w9 (w.heap.size + 1) v') (by simp)
  · rw [hbad.2]
    exact hS9.low (grownBy_setCell' w9 (w.heap.size + 1) v') (fun r e => by cases e; omega)
  · rw [hbad.1]; exact hE
  · have := (grownBy_setCell' w9 (w.heap.size + 1) v').size
    have := hg.size
    have := hb8'.size
    omega
end
end Go.Proofs.YteeekdffbcbamaaDoor
