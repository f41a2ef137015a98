/-
  PLAIN: which sentence a line is, or which fault it has.
-/
import Derived.Test.YteeekdffbcbamaaGreatDoorG2
import Derived.Test.YteeekdffbcbamaaGreatDoorG3
import Derived.Test.YteeekdffbcbamaaGreatDoorFix
import Derived.Test.YteeekdffbcbamaaGreatDoorEndsB
import Derived.Laws.EntriesVeiled
import Derived.BigRegion
namespace Go.Proofs.YteeekdffbcbamaaGreatDoor.Plain

/-- A sentence. -/
structure Sn where
  kind : Int
  time : Int
  ok : Bool
  p0 : Int
  p1 : Int
  p2 : Int
  l0 : Int
  l1 : Int
  l2 : Int
  prns : List Int
  prn : Int
  lag : Int
  power : Int
  text : ByteArray
def zeroSn : Sn := ⟨0, 0, false, 0, 0, 0, 0, 0, 0, [], 0, 0, 0, ⟨#[]⟩⟩
def st0 : St := ⟨1, true, 0, 0⟩
/-- Behind the word. -/
def stW (s : ByteArray) (e : Nat) : St := fldSt s e st0
/-- Behind the time. -/
def stT (s : ByteArray) (e : Nat) : St := numSt s e (stW s e) 0 604799999 2
def wordF (s : ByteArray) (e : Nat) : ByteArray := fldF s e st0
/-- The kind that a word names, 0 if none. -/
def kindW (l : List UInt8) : Nat := if l = [70, 73, 88] then 1 else if l = [83, 65, 84] then 2 else if l = [84, 88, 84] then 3 else 0
/-- Behind all fields of a kind. -/
def bodySt (s : ByteArray) (e : Nat) (k : Nat) : St :=
  if k = 1 then fixEnd s e (stT s e) else if k = 2 then chan4 s e (stT s e) else if k = 3 then textSt s e (stT s e) else failSt (stW s e) 11 1
/-- The sentence that the fields of a kind give. -/
def bodySn (s : ByteArray) (e : Nat) (k : Nat) : Sn :=
  let st := stT s e
  let t := numO s e (stW s e)
  if k = 1 then ⟨1, t, numO s e (fixSt s e st 0) == 1, numO s e (fixSt s e st 1), numO s e (fixSt s e st 2), numO s e (fixSt s e st 3), numO s e (fixSt s e st 4), numO s e (fixSt s e st 5), numO s e (fixSt s e st 6), fixL s e st, 0, 0, 0, ⟨#[]⟩⟩
  else if k = 2 then ⟨2, t, numO s e st == 1, 0, 0, 0, 0, 0, 0, [], numO s e (chan1 s e st), numO s e (chan2 s e st), numO s e (chan3 s e st), ⟨#[]⟩⟩
  else if k = 3 then ⟨3, t, false, 0, 0, 0, 0, 0, 0, [], 0, 0, 0, fldS s e st⟩
  else zeroSn
/-- No further field. -/
def endSt (st : St) : St := if st.more = true then failSt st 11 st.pos else st
def fieldsP (s : ByteArray) (e : Nat) (k : Nat) : Sn × Int × Int :=
  if (endSt (bodySt s e k)).er ≠ 0 then (zeroSn, (endSt (bodySt s e k)).er, (endSt (bodySt s e k)).ea) else (bodySn s e k, 0, 0)
/-- The sentence of a line, or its fault. -/
def parse (s : ByteArray) : Sn × Int × Int :=
  if (endsP s).2.1 ≠ 0 then (zeroSn, (endsP s).2.1, (endsP s).2.2) else fieldsP s (endsP s).1 (kindW (wordF s (endsP s).1).data.toList)

theorem ends_ok {s : ByteArray} {e : Nat} {ea : Int} (h : endsP s = (e, 0, ea)) : s.size ≤ 500 ∧ 1 ≤ e ∧ e + 3 = s.size ∧ ea = 0 := by
  unfold endsP at h
  by_cases c1 : 500 < s.size
  · rw [if_pos c1] at h; simp at h
  · rw [if_neg c1] at h
    by_cases c2 : s.data.toList.head? ≠ some 36
    · rw [if_pos c2] at h; simp at h
    · rw [if_neg c2] at h
      have c2' : s.data.toList.head? = some 36 := by simpa using c2
      by_cases c3 : starN s = s.size
      · rw [if_pos c3] at h; simp at h
      · rw [if_neg c3] at h
        by_cases c4 : hexAt s (starN s + 1) < 0
        · rw [if_pos c4] at h; simp at h
        · rw [if_neg c4] at h
          by_cases c5 : hexAt s (starN s + 2) < 0
          · rw [if_pos c5] at h; simp at h
          · rw [if_neg c5] at h
            by_cases c6 : starN s + 3 < s.size
            · rw [if_pos c6] at h; simp at h
            · rw [if_neg c6] at h
              split at h
              · simp at h
              · simp only [Prod.mk.injEq] at h
                have h1 := star_pos c2'
                have h2 := hexAt_lt (s := s) (i := starN s + 2) (by omega)
                omega
theorem okSt_st0 {e : Nat} (h : 1 ≤ e) : okSt e st0 := fun _ => h
theorem okSt_W {s : ByteArray} {e : Nat} (h : 1 ≤ e) : okSt e (stW s e) := okSt_fld (okSt_st0 h)
theorem okSt_T {s : ByteArray} {e : Nat} (h : 1 ≤ e) : okSt e (stT s e) := okSt_num (okSt_W h)
theorem fldS_st0 (s : ByteArray) (e : Nat) : fldS s e st0 = wordF s e := rfl
theorem fld_er {s : ByteArray} {e : Nat} {st : St} (h : (fldSt s e st).er = 0) : st.er = 0 := by
  unfold fldSt at h
  by_cases h1 : st.er ≠ 0
  · rw [if_pos h1] at h; exact h
  · simpa using h1
theorem text_er {s : ByteArray} {e : Nat} {st : St} (h : (textSt s e st).er = 0) : st.er = 0 := by
  unfold textSt at h
  by_cases h1 : textE (fldS s e st).data.toList = 0
  · rw [if_pos h1] at h; exact fld_er h
  · rw [if_neg h1] at h; exact absurd h (fun h => fail_er h1 h)
theorem fixSt_er {s : ByteArray} {e : Nat} {st : St} : ∀ {j : Nat}, (fixSt s e st j).er = 0 → st.er = 0
  | 0, h => h
  | _ + 1, h => fixSt_er (num_er h)
theorem chan4_er {s : ByteArray} {e : Nat} {st : St} (h : (chan4 s e st).er = 0) : st.er = 0 := num_er (num_er (num_er (num_er h)))
theorem bodySt_1 (s : ByteArray) (e : Nat) : bodySt s e 1 = fixEnd s e (stT s e) := by unfold bodySt; rw [if_pos rfl]
theorem bodySt_2 (s : ByteArray) (e : Nat) : bodySt s e 2 = chan4 s e (stT s e) := by unfold bodySt; rw [if_neg (by decide), if_pos rfl]
theorem bodySt_3 (s : ByteArray) (e : Nat) : bodySt s e 3 = textSt s e (stT s e) := by unfold bodySt; rw [if_neg (by decide), if_neg (by decide), if_pos rfl]
theorem bodySt_0 (s : ByteArray) (e : Nat) : bodySt s e 0 = failSt (stW s e) 11 1 := by unfold bodySt; rw [if_neg (by decide), if_neg (by decide), if_neg (by decide)]
theorem fieldsP_ok {s : ByteArray} {e k : Nat} (h : (endSt (bodySt s e k)).er = 0) : fieldsP s e k = (bodySn s e k, 0, 0) := by
  unfold fieldsP
  rw [if_neg (by simpa using h)]
theorem fieldsP_er {s : ByteArray} {e k : Nat} (h : (endSt (bodySt s e k)).er ≠ 0) : fieldsP s e k = (zeroSn, (endSt (bodySt s e k)).er, (endSt (bodySt s e k)).ea) := by
  unfold fieldsP
  rw [if_pos h]
theorem endSt_er {st : St} (h : (endSt st).er = 0) : st.er = 0 := by
  unfold endSt at h
  by_cases h1 : st.more = true
  · rw [if_pos h1] at h; exact absurd h (fun h => fail_er (by decide) h)
  · rw [if_neg h1] at h; exact h
theorem stW_er (s : ByteArray) (e : Nat) : (stW s e).er = 0 := rfl
end Go.Proofs.YteeekdffbcbamaaGreatDoor.Plain
/-
  WALKS: what a line's fields leave in the reader (package report).
-/
namespace Go.Proofs.YteeekdffbcbamaaGreatDoor
open Go.RowKit

/-- A sentence as it lies in cells; v: its numbers of satellites. -/
def snCells (x : Plain.Sn) (v : Value) : Array Value :=
  #[.int .i64 x.kind, .int .i64 x.time, .bool x.ok, .int .i64 x.p0, .int .i64 x.p1, .int .i64 x.p2, .int .i64 x.l0, .int .i64 x.l1, .int .i64 x.l2, v, .int .i64 x.prn, .int .i64 x.lag, .int .i64 x.power, .string x.text]
/-- The reader behind all fields. -/
def ReadR (w wr : World) (b T : Nat) (s : ByteArray) (e k : Nat) : Prop :=
  ∃ (X : Array Value) (v : Value) (zs : List Int), X.size = 14 ∧ Rs wr b T s e (Plain.bodySt s e k) X ∧ X[0]? = some (.int .i64 k) ∧ wr.ownsRow (b + 1) 3 1 v zs.length (zs.map (Value.int .i64)) ∧
    ((Plain.bodySt s e k).er = 0 → X = snCells (Plain.bodySn s e k) v ∧ zs = (Plain.bodySn s e k).prns) ∧ Below b w wr
/-- The cells behind the time. -/
def timeX (k t : Int) : Array Value :=
  #[.int .i64 k, .int .i64 t, .bool false, .int .i64 0, .int .i64 0, .int .i64 0, .int .i64 0, .int .i64 0, .int .i64 0, .slice none 0 0, .int .i64 0, .int .i64 0, .int .i64 0, .string ⟨#[]⟩]
theorem read_fix {w wr w' : World} {b T : Nat} {s : ByteArray} {e : Nat} {t : Int} {en : Ending} (ht : (Plain.stT s e).er = 0 → t = Plain.numO s e (Plain.stW s e)) (hB : Below b w wr) (h : FixPost wr b T s e (Plain.stT s e) (timeX 1 t) en w') :
    en = .returned (.tuple #[]) ∧ ReadR w w' b T s e 1 := by
  obtain ⟨he, X2, v, zs, hX, h0, hr, ho, hq, hb⟩ := h
  unfold ReadR
  rw [Plain.bodySt_1]
  refine ⟨he, X2.setIfInBounds 9 v, v, zs, by rw [Array.size_setIfInBounds, hX], hr, ?_, ho, fun hz => ?_, hB.trans hb⟩
  · rw [Array.getElem?_setIfInBounds_ne (by omega), h0]; rfl
  · obtain ⟨rfl, rfl⟩ := hq hz
    have h8 : (Plain.fixSt s e (Plain.stT s e) 8).er = 0 := Plain.fixEnd_er hz
    have hT : (Plain.stT s e).er = 0 := Plain.fixSt_er h8
    rw [ht hT]
    refine ⟨?_, rfl⟩
    simp [fixX, fixV, timeX, snCells, Plain.bodySn]
theorem read_chan {w wr w' : World} {b T : Nat} {s : ByteArray} {e : Nat} {t : Int} {en : Ending} (ht : (Plain.stT s e).er = 0 → t = Plain.numO s e (Plain.stW s e)) (hB : Below b w wr) (hlt : b ≤ wr.heap.size)
    (h : en = .returned (.tuple #[]) ∧ (∃ z1 z2 z3 z4, ((Plain.chan4 s e (Plain.stT s e)).er = 0 → z1 = Plain.numO s e (Plain.stT s e) ∧ z2 = Plain.numO s e (Plain.chan1 s e (Plain.stT s e)) ∧ z3 = Plain.numO s e (Plain.chan2 s e (Plain.stT s e)) ∧ z4 = Plain.numO s e (Plain.chan3 s e (Plain.stT s e))) ∧ Rs w' b T s e (Plain.chan4 s e (Plain.stT s e)) (chanX (timeX 2 t) z1 z2 z3 z4)) ∧ wr.grownBy w' (some b)) :
    en = .returned (.tuple #[]) ∧ ReadR w w' b T s e 2 := by
  obtain ⟨he, ⟨z1, z2, z3, z4, hz, hr⟩, hg⟩ := h
  unfold ReadR
  rw [Plain.bodySt_2]
  refine ⟨he, _, .slice none 0 0, [], chanX_size rfl, hr, ?_, World.ownsRow_nil _ _ _ _, fun h4 => ?_, hB.grown hg hlt (fun g e => by cases e; exact Nat.le_refl _)⟩
  · unfold chanX
    rw [Array.getElem?_setIfInBounds_ne (by omega), Array.getElem?_setIfInBounds_ne (by omega), Array.getElem?_setIfInBounds_ne (by omega), Array.getElem?_setIfInBounds_ne (by omega)]
    rfl
  · have hT : (Plain.stT s e).er = 0 := Plain.chan4_er h4
    obtain ⟨rfl, rfl, rfl, rfl⟩ := hz h4
    rw [ht hT]
    exact ⟨rfl, rfl⟩
theorem read_text {w wr w' : World} {b T : Nat} {s : ByteArray} {e : Nat} {t : Int} {en : Ending} (ht : (Plain.stT s e).er = 0 → t = Plain.numO s e (Plain.stW s e)) (hB : Below b w wr) (hlt : b ≤ wr.heap.size)
    (h : en = .returned (.tuple #[]) ∧ Rs w' b T s e (Plain.textSt s e (Plain.stT s e)) ((timeX 3 t).setIfInBounds 13 (.string (Plain.fldS s e (Plain.stT s e)))) ∧ wr.grownBy w' (some b)) :
    en = .returned (.tuple #[]) ∧ ReadR w w' b T s e 3 := by
  obtain ⟨he, hr, hg⟩ := h
  unfold ReadR
  rw [Plain.bodySt_3]
  refine ⟨he, _, .slice none 0 0, [], by rw [Array.size_setIfInBounds]; rfl, hr, ?_, World.ownsRow_nil _ _ _ _, fun h4 => ?_, hB.grown hg hlt (fun g e => by cases e; exact Nat.le_refl _)⟩
  · rw [Array.getElem?_setIfInBounds_ne (by omega)]
    rfl
  · have hT : (Plain.stT s e).er = 0 := Plain.text_er h4
    rw [ht hT]
    exact ⟨rfl, rfl⟩
theorem kinds_any (w : World) :
    Calls Tryz.prog 32 #[] w fun en w' => en = .returned (.agg #[.string ⟨#[70, 73, 88]⟩, .int .i64 1, .func (.func 53) #[] #[], .string ⟨#[83, 65, 84]⟩, .int .i64 2, .func (.func 54) #[] #[], .string ⟨#[84, 88, 84]⟩, .int .i64 3, .func (.func 55) #[] #[]]) ∧ Below w.heap.size w w' := by
  go_enter Tryz.func32, Tryz.ntmps32
  go_wp2_with fail
  exact bodyPost_ret (v := .agg #[.string ⟨#[70, 73, 88]⟩, .int .i64 1, .func (.func 53) #[] #[], .string ⟨#[83, 65, 84]⟩, .int .i64 2, .func (.func 54) #[] #[], .string ⟨#[84, 88, 84]⟩, .int .i64 3, .func (.func 55) #[] #[]]) (by simp [results, Tryz.results32, go_sem]) rfl ⟨rfl, (Below.refl _ _).alloc (Nat.le_refl _) _⟩
end Go.Proofs.YteeekdffbcbamaaGreatDoor
/-
  WALKS: the sentence of a line (package report).
-/
namespace Go.Proofs.YteeekdffbcbamaaGreatDoor
open Go.RowKit

/-- What Parse comes to. -/
def ParsePost (w : World) (r : Plain.Sn × Int × Int) (en : Ending) (w' : World) : Prop :=
  ∃ v, en = .returned (.tuple #[.agg (snCells r.1 v), .agg #[.int .i64 r.2.1, .int .i64 r.2.2]]) ∧ w'.ownsRow w.heap.size 3 1 v r.1.prns.length (r.1.prns.map (Value.int .i64)) ∧ Below w.heap.size w w'
/-- The cells of a zero sentence. -/
def zeroX : Array Value := #[.int .i64 0, .int .i64 0, .bool false, .int .i64 0, .int .i64 0, .int .i64 0, .int .i64 0, .int .i64 0, .int .i64 0, .slice none 0 0, .int .i64 0, .int .i64 0, .int .i64 0, .string ⟨#[]⟩]
theorem heap_new_at (w : World) (g : Nat) (o : Obj) (h : g = w.heap.size) : (w.alloc o).heap[g]? = some o := by subst h; exact heap_alloc_new w o
/-- A block known whole. -/
def Blk (w : World) (g : Nat) (t : TypeId) (cs : Array Value) : Prop := w.heap[g]? = some (.cells cs t (0, 0))
section
variable {w w' : World} {g : Nat} {t : TypeId} {cs : Array Value}
theorem Blk.lt (h : Blk w g t cs) : g < w.heap.size := by
  rcases Nat.lt_or_ge g w.heap.size with hlt | hge
  · exact hlt
  · unfold Blk at h; rw [Array.getElem?_eq_none hge] at h; cases h
theorem Blk.cell (h : Blk w g t cs) (i : Nat) : w.cell? ⟨g, i, none⟩ = cs[i]? := cell_of_row w g i cs t (0, 0) h
theorem Blk.frozen (h : Blk w g t cs) (i : Nat) : w.frozen? ⟨g, i, none⟩ = false := by
  unfold Blk at h
  simp [World.frozen?, h]
theorem Blk.alloc (h : Blk w g t cs) (o : Obj) : Blk (w.alloc o) g t cs := (Below.heap_alloc w o g h.lt).trans h
theorem Blk.below {B : Nat} (h : Blk w g t cs) (hb : Below B w w') (hg : g < B) : Blk w' g t cs := (hb.block g hg).trans h
theorem Blk.grown {row : Option Nat} (h : Blk w g t cs) (hb : w.grownBy w' row) (hg : some g ≠ row) : Blk w' g t cs := (hb.block g h.lt hg).trans h
end

theorem Blk.set_ {w : World} {g : Nat} {t : TypeId} {cs : Array Value} (h : Blk w g t cs) (i : Nat) (u : Value) : Blk (w.setCell ⟨g, i, none⟩ u) g t (cs.setIfInBounds i u) := by
  unfold Blk at h ⊢
  simp [World.setCell, Array.getElem?_modify, h]
theorem Blk.far {w : World} {g : Nat} {t : TypeId} {cs : Array Value} (h : Blk w g t cs) {p : Addr} (hp : g ≠ p.block) (u : Value) : Blk (w.setCell p u) g t cs := (Below.heap_setCell w p u g hp).trans h
theorem size14 {cs : Array Value} (h : cs.size = 14) : ∃ c0 c1 c2 c3 c4 c5 c6 c7 c8 c9 c10 c11 c12 c13, cs = #[c0, c1, c2, c3, c4, c5, c6, c7, c8, c9, c10, c11, c12, c13] := by
  obtain ⟨l⟩ := cs
  match l, h with
  | [c0, c1, c2, c3, c4, c5, c6, c7, c8, c9, c10, c11, c12, c13], _ => exact ⟨c0, c1, c2, c3, c4, c5, c6, c7, c8, c9, c10, c11, c12, c13, rfl⟩
theorem set14_eq (c0 c1 c2 c3 c4 c5 c6 c7 c8 c9 c10 c11 c12 c13 v0 v1 v2 v3 v4 v5 v6 v7 v8 v9 v10 v11 v12 v13 : Value) : (((((((((((((#[c0, c1, c2, c3, c4, c5, c6, c7, c8, c9, c10, c11, c12, c13].setIfInBounds 0 v0).setIfInBounds 1 v1).setIfInBounds 2 v2).setIfInBounds 3 v3).setIfInBounds 4 v4).setIfInBounds 5 v5).setIfInBounds 6 v6).setIfInBounds 7 v7).setIfInBounds 8 v8).setIfInBounds 9 v9).setIfInBounds 10 v10).setIfInBounds 11 v11).setIfInBounds 12 v12).setIfInBounds 13 v13 = #[v0, v1, v2, v3, v4, v5, v6, v7, v8, v9, v10, v11, v12, v13] := by simp
/-- Both results are stored: what lies there. -/
theorem set_all {w w0 : World} {B g1 g2 : Nat} {t1 t2 : TypeId} {cs1 : Array Value} {x0 x1 : Value} (h1 : Blk w g1 t1 cs1) (hs : cs1.size = 14) (h2 : Blk w g2 t2 #[x0, x1]) (hne : g1 ≠ g2) (hB : Below B w0 w) (hg1 : B ≤ g1) (hg2 : B ≤ g2) (v0 v1 v2 v3 v4 v5 v6 v7 v8 v9 v10 v11 v12 v13 u0 u1 : Value) :
    ∃ W : World, (((((((((((((((w.setCell ⟨g1, 0, none⟩ v0).setCell ⟨g1, 1, none⟩ v1).setCell ⟨g1, 2, none⟩ v2).setCell ⟨g1, 3, none⟩ v3).setCell ⟨g1, 4, none⟩ v4).setCell ⟨g1, 5, none⟩ v5).setCell ⟨g1, 6, none⟩ v6).setCell ⟨g1, 7, none⟩ v7).setCell ⟨g1, 8, none⟩ v8).setCell ⟨g1, 9, none⟩ v9).setCell ⟨g1, 10, none⟩ v10).setCell ⟨g1, 11, none⟩ v11).setCell ⟨g1, 12, none⟩ v12).setCell ⟨g1, 13, none⟩ v13).setCell ⟨g2, 0, none⟩ u0).setCell ⟨g2, 1, none⟩ u1 = W ∧ Blk W g1 t1 #[v0, v1, v2, v3, v4, v5, v6, v7, v8, v9, v10, v11, v12, v13] ∧ Blk W g2 t2 #[u0, u1] ∧ Below B w0 W ∧ W.heap.size = w.heap.size ∧ ∀ k, k ≠ g1 → k ≠ g2 → W.heap[k]? = w.heap[k]? := by
  obtain ⟨c0, c1, c2, c3, c4, c5, c6, c7, c8, c9, c10, c11, c12, c13, rfl⟩ := size14 hs
  refine ⟨_, rfl, ?_, ?_, ?_, ?_, ?_⟩
  · have := ((((((((((((((h1.set_ 0 v0).set_ 1 v1).set_ 2 v2).set_ 3 v3).set_ 4 v4).set_ 5 v5).set_ 6 v6).set_ 7 v7).set_ 8 v8).set_ 9 v9).set_ 10 v10).set_ 11 v11).set_ 12 v12).set_ 13 v13)
    rw [set14_eq] at this
    exact (this.far (p := ⟨g2, 0, none⟩) hne u0).far (p := ⟨g2, 1, none⟩) hne u1
  · have : Blk ((((((((((((((w.setCell ⟨g1, 0, none⟩ v0).setCell ⟨g1, 1, none⟩ v1).setCell ⟨g1, 2, none⟩ v2).setCell ⟨g1, 3, none⟩ v3).setCell ⟨g1, 4, none⟩ v4).setCell ⟨g1, 5, none⟩ v5).setCell ⟨g1, 6, none⟩ v6).setCell ⟨g1, 7, none⟩ v7).setCell ⟨g1, 8, none⟩ v8).setCell ⟨g1, 9, none⟩ v9).setCell ⟨g1, 10, none⟩ v10).setCell ⟨g1, 11, none⟩ v11).setCell ⟨g1, 12, none⟩ v12).setCell ⟨g1, 13, none⟩ v13) g2 t2 #[x0, x1] := ((((((((((((((h2.far (p := ⟨g1, 0, none⟩) hne.symm v0).far (p := ⟨g1, 1, none⟩) hne.symm v1).far (p := ⟨g1, 2, none⟩) hne.symm v2).far (p := ⟨g1, 3, none⟩) hne.symm v3).far (p := ⟨g1, 4, none⟩) hne.symm v4).far (p := ⟨g1, 5, none⟩) hne.symm v5).far (p := ⟨g1, 6, none⟩) hne.symm v6).far (p := ⟨g1, 7, none⟩) hne.symm v7).far (p := ⟨g1, 8, none⟩) hne.symm v8).far (p := ⟨g1, 9, none⟩) hne.symm v9).far (p := ⟨g1, 10, none⟩) hne.symm v10).far (p := ⟨g1, 11, none⟩) hne.symm v11).far (p := ⟨g1, 12, none⟩) hne.symm v12).far (p := ⟨g1, 13, none⟩) hne.symm v13)
    exact (this.set_ 0 u0).set_ 1 u1
  · exact ((((((((((((((((hB.setCell (p := ⟨g1, 0, none⟩) hg1 v0).setCell (p := ⟨g1, 1, none⟩) hg1 v1).setCell (p := ⟨g1, 2, none⟩) hg1 v2).setCell (p := ⟨g1, 3, none⟩) hg1 v3).setCell (p := ⟨g1, 4, none⟩) hg1 v4).setCell (p := ⟨g1, 5, none⟩) hg1 v5).setCell (p := ⟨g1, 6, none⟩) hg1 v6).setCell (p := ⟨g1, 7, none⟩) hg1 v7).setCell (p := ⟨g1, 8, none⟩) hg1 v8).setCell (p := ⟨g1, 9, none⟩) hg1 v9).setCell (p := ⟨g1, 10, none⟩) hg1 v10).setCell (p := ⟨g1, 11, none⟩) hg1 v11).setCell (p := ⟨g1, 12, none⟩) hg1 v12).setCell (p := ⟨g1, 13, none⟩) hg1 v13).setCell (p := ⟨g2, 0, none⟩) hg2 u0).setCell (p := ⟨g2, 1, none⟩) hg2 u1)
  · simp [World.setCell]
  · intro k k1 k2
    rw [Below.heap_setCell _ _ _ k k2, Below.heap_setCell _ _ _ k k2, Below.heap_setCell _ _ _ k k1, Below.heap_setCell _ _ _ k k1, Below.heap_setCell _ _ _ k k1, Below.heap_setCell _ _ _ k k1, Below.heap_setCell _ _ _ k k1, Below.heap_setCell _ _ _ k k1, Below.heap_setCell _ _ _ k k1, Below.heap_setCell _ _ _ k k1, Below.heap_setCell _ _ _ k k1, Below.heap_setCell _ _ _ k k1, Below.heap_setCell _ _ _ k k1, Below.heap_setCell _ _ _ k k1, Below.heap_setCell _ _ _ k k1, Below.heap_setCell _ _ _ k k1]

theorem Blk.zeros {w : World} {g : Nat} {t : TypeId} (h : Blk w g t zeroX) : w.cell? ⟨g, 0, none⟩ = some (.int .i64 0) ∧ w.cell? ⟨g, 1, none⟩ = some (.int .i64 0) ∧ w.cell? ⟨g, 2, none⟩ = some (.bool false) ∧ w.cell? ⟨g, 3, none⟩ = some (.int .i64 0) ∧ w.cell? ⟨g, 4, none⟩ = some (.int .i64 0) ∧ w.cell? ⟨g, 5, none⟩ = some (.int .i64 0) ∧ w.cell? ⟨g, 6, none⟩ = some (.int .i64 0) ∧ w.cell? ⟨g, 7, none⟩ = some (.int .i64 0) ∧ w.cell? ⟨g, 8, none⟩ = some (.int .i64 0) ∧ w.cell? ⟨g, 9, none⟩ = some (.slice none 0 0) ∧ w.cell? ⟨g, 10, none⟩ = some (.int .i64 0) ∧ w.cell? ⟨g, 11, none⟩ = some (.int .i64 0) ∧ w.cell? ⟨g, 12, none⟩ = some (.int .i64 0) ∧ w.cell? ⟨g, 13, none⟩ = some (.string ⟨#[]⟩) := by
  have := h.cell
  unfold zeroX at this
  exact ⟨this 0, this 1, this 2, this 3, this 4, this 5, this 6, this 7, this 8, this 9, this 10, this 11, this 12, this 13⟩

theorem Blk.cells14 {w : World} {g : Nat} {t : TypeId} {c0 c1 c2 c3 c4 c5 c6 c7 c8 c9 c10 c11 c12 c13 : Value} (h : Blk w g t #[c0, c1, c2, c3, c4, c5, c6, c7, c8, c9, c10, c11, c12, c13]) : w.cell? ⟨g, 0, none⟩ = some c0 ∧ w.cell? ⟨g, 1, none⟩ = some c1 ∧ w.cell? ⟨g, 2, none⟩ = some c2 ∧ w.cell? ⟨g, 3, none⟩ = some c3 ∧ w.cell? ⟨g, 4, none⟩ = some c4 ∧ w.cell? ⟨g, 5, none⟩ = some c5 ∧ w.cell? ⟨g, 6, none⟩ = some c6 ∧ w.cell? ⟨g, 7, none⟩ = some c7 ∧ w.cell? ⟨g, 8, none⟩ = some c8 ∧ w.cell? ⟨g, 9, none⟩ = some c9 ∧ w.cell? ⟨g, 10, none⟩ = some c10 ∧ w.cell? ⟨g, 11, none⟩ = some c11 ∧ w.cell? ⟨g, 12, none⟩ = some c12 ∧ w.cell? ⟨g, 13, none⟩ = some c13 :=
  ⟨h.cell 0, h.cell 1, h.cell 2, h.cell 3, h.cell 4, h.cell 5, h.cell 6, h.cell 7, h.cell 8, h.cell 9, h.cell 10, h.cell 11, h.cell 12, h.cell 13⟩
theorem Blk.drew {w : World} {g : Nat} {t : TypeId} {cs : Array Value} (h : Blk w g t cs) : Blk w.drew g t cs := h
/-- The return: both results are read out of their cells. -/
theorem parse_ret {w W : World} {tmps : Array Value} {g1 g2 : Nat} {r : Plain.Sn × Int × Int} {v : Value} (h2 : tmps[2]?.getD undef = .pointer (some ⟨g1, 0, none⟩)) (h3 : tmps[3]?.getD undef = .pointer (some ⟨g2, 0, none⟩))
    (hA : Blk W g1 28 (snCells r.1 v)) (hC : Blk W g2 39 #[.int .i64 r.2.1, .int .i64 r.2.2]) (ho : W.ownsRow w.heap.size 3 1 v r.1.prns.length (r.1.prns.map (Value.int .i64))) (hB : Below w.heap.size w W) :
    bodyPost Tryz.prog Tryz.f14 (ParsePost w r) .ret { tmps := tmps, defers := [] } W := by
  obtain ⟨k0, k1, k2, k3, k4, k5, k6, k7, k8, k9, k10, k11, k12, k13⟩ := Blk.cells14 hA
  have u0 := hC.cell 0
  have u1 := hC.cell 1
  exact bodyPost_ret (v := .tuple #[.agg (snCells r.1 v), .agg #[.int .i64 r.2.1, .int .i64 r.2.2]]) (by simp [results, Tryz.results14, go_sem, snCells, h2, h3, k0, k1, k2, k3, k4, k5, k6, k7, k8, k9, k10, k11, k12, k13, u0, u1]) rfl ⟨v, rfl, ho, hB⟩

set_option maxHeartbeats 1000000 in
theorem parse_bad (s : ByteArray) (w : World) (hs : s.size ≤ 1000000) (E : Nat) (er ea : Int) (hE : Plain.endsP s = (E, er, ea)) (her : er ≠ 0) :
    Calls Tryz.prog 14 #[.string s] w (ParsePost w (Plain.zeroSn, er, ea)) := by
  have HE := Lib.hid (fun W => ends_any s W E er ea hE hs)
  have hq : (er != 0) = true := by simpa using her
  clear hE her
  go_enter Tryz.func14, Tryz.ntmps14
  go_wp2_with fail
  refine (HE.out _).mono ?_
  rintro en w1 ⟨rfl, hb1⟩
  have hsz1 : w.heap.size + 2 ≤ w1.heap.size := by have := hb1.size; simp at this; omega
  have hB1 : Blk w1 w.heap.size 28 zeroX := Blk.below (Blk.alloc (heap_alloc_new w _) _) hb1 (by simp; omega)
  have hB2 : Blk w1 (w.heap.size + 1) 39 #[.int .i64 0, .int .i64 0] := Blk.below (heap_new_at _ _ _ (by simp)) hb1 (by simp)
  have hBW : Below w.heap.size w w1 := (((Below.refl w.heap.size w).alloc (Nat.le_refl _) _).alloc (by simp) _).trans (hb1.mono (by simp; omega))
  have HBW := Lib.hid hBW; clear hBW
  clear hb1
  obtain ⟨x0, x1, x2, x3, x4, x5, x6, x7, x8, x9, x10, x11, x12, x13⟩ := hB1.zeros
  have y0 := hB2.cell 0
  have y1 := hB2.cell 1
  have hl1 : w.heap.size < w1.heap.size := by omega
  have hl2 : w.heap.size + 1 < w1.heap.size := by omega
  have f1 := hB1.frozen
  have f2 := hB2.frozen
  have HB1 := Lib.hid hB1; clear hB1
  have HB2 := Lib.hid hB2; clear hB2
  go_wp2_with fail
  go_region
  all_goals
    go_wp2_with fail
    obtain ⟨W, hW, hA, hC, hBB, -, -⟩ := set_all HB1.out rfl HB2.out (by omega) HBW.out (Nat.le_refl _) (by omega) (.int .i64 0) (.int .i64 0) (.bool false) (.int .i64 0) (.int .i64 0) (.int .i64 0) (.int .i64 0) (.int .i64 0) (.int .i64 0) (.slice none 0 0) (.int .i64 0) (.int .i64 0) (.int .i64 0) (.string ⟨#[]⟩) (.int .i64 er) (.int .i64 ea)
    rw [hW]
    exact parse_ret rfl rfl (hA.alloc _).drew (hC.alloc _).drew (World.ownsRow_nil _ _ _ _) (hBB.alloc (by have := hBB.size; omega) _).drew
end Go.Proofs.YteeekdffbcbamaaGreatDoor
/-
  WALKS: the sentence of a line whose frame is right (package report).
-/
namespace Go.Proofs.YteeekdffbcbamaaGreatDoor
open Go.RowKit

abbrev kindsV : Value := .agg #[.string ⟨#[70, 73, 88]⟩, .int .i64 1, .func (.func 53) #[] #[], .string ⟨#[83, 65, 84]⟩, .int .i64 2, .func (.func 54) #[] #[], .string ⟨#[84, 88, 84]⟩, .int .i64 3, .func (.func 55) #[] #[]]
theorem kindsV0 (w : World) : (Instr.index 71 kindsV (.int .i64 0)).run Tryz.prog w = .ok (.agg #[.string ⟨#[70, 73, 88]⟩, .int .i64 1, .func (.func 53) #[] #[]]) w := by kernel_rfl
theorem kindsV1 (w : World) : (Instr.index 71 kindsV (.int .i64 1)).run Tryz.prog w = .ok (.agg #[.string ⟨#[83, 65, 84]⟩, .int .i64 2, .func (.func 54) #[] #[]]) w := by kernel_rfl
theorem kindsV2 (w : World) : (Instr.index 71 kindsV (.int .i64 2)).run Tryz.prog w = .ok (.agg #[.string ⟨#[84, 88, 84]⟩, .int .i64 3, .func (.func 55) #[] #[]]) w := by kernel_rfl
/-- The cells of a reader's sentence at the start. -/
theorem rd_new (w : World) (s : ByteArray) (e : Nat) (g : Nat) (hg : g = w.heap.size) :
    Rs (w.alloc (.cells #[.string s, .int .i64 1, .int .i64 e, .bool true, .int .i64 0, .int .i64 0, .int .i64 0, .int .i64 0, .bool false, .int .i64 0, .int .i64 0, .int .i64 0, .int .i64 0, .int .i64 0, .int .i64 0, .slice none 0 0, .int .i64 0, .int .i64 0, .int .i64 0, .string ⟨#[]⟩] 66)) g 66 s e Plain.st0 zeroX := by
  subst hg
  exact heap_alloc_new w _
theorem ReadR.alloc {w wr : World} {b T : Nat} {s : ByteArray} {e k : Nat} (h : ReadR w wr b T s e k) (o : Obj) : ReadR w (wr.alloc o) b T s e k := by
  obtain ⟨X, v, zs, h1, h2, h3, h4, h5, h6⟩ := h
  exact ⟨X, v, zs, h1, Rd.alloc h2 o, h3, h4.alloc o, h5, h6.alloc (Nat.le_of_lt (Rd.lt h2)) o⟩
/-- The reader ahead of the kinds, with what its callers keep. -/
def PreR (w wr : World) (b : Nat) (s : ByteArray) (e : Nat) : Prop := Rs wr b 66 s e (Plain.stW s e) zeroX ∧ Below b w wr
theorem PreR.alloc {w wr : World} {b : Nat} {s : ByteArray} {e : Nat} (h : PreR w wr b s e) (o : Obj) : PreR w (wr.alloc o) b s e := ⟨Rd.alloc h.1 o, h.2.alloc (Nat.le_of_lt (Rd.lt h.1)) o⟩
theorem PreR.read0 {w wr : World} {b : Nat} {s : ByteArray} {e : Nat} (h : PreR w wr b s e) : Rs wr b 66 s e (Plain.stW s e) zeroX := h.1
theorem rs_cells14 {w : World} {b T : Nat} {s : ByteArray} {e : Nat} {st : Plain.St} {x : Plain.Sn} {v : Value} (h : Rs w b T s e st (snCells x v)) : w.cell? ⟨b, 6, none⟩ = some (.int .i64 x.kind) ∧ w.cell? ⟨b, 7, none⟩ = some (.int .i64 x.time) ∧ w.cell? ⟨b, 8, none⟩ = some (.bool x.ok) ∧ w.cell? ⟨b, 9, none⟩ = some (.int .i64 x.p0) ∧ w.cell? ⟨b, 10, none⟩ = some (.int .i64 x.p1) ∧ w.cell? ⟨b, 11, none⟩ = some (.int .i64 x.p2) ∧ w.cell? ⟨b, 12, none⟩ = some (.int .i64 x.l0) ∧ w.cell? ⟨b, 13, none⟩ = some (.int .i64 x.l1) ∧ w.cell? ⟨b, 14, none⟩ = some (.int .i64 x.l2) ∧ w.cell? ⟨b, 15, none⟩ = some (v) ∧ w.cell? ⟨b, 16, none⟩ = some (.int .i64 x.prn) ∧ w.cell? ⟨b, 17, none⟩ = some (.int .i64 x.lag) ∧ w.cell? ⟨b, 18, none⟩ = some (.int .i64 x.power) ∧ w.cell? ⟨b, 19, none⟩ = some (.string x.text) := by
  exact ⟨Rd.x h 0 _ rfl, Rd.x h 1 _ rfl, Rd.x h 2 _ rfl, Rd.x h 3 _ rfl, Rd.x h 4 _ rfl, Rd.x h 5 _ rfl, Rd.x h 6 _ rfl, Rd.x h 7 _ rfl, Rd.x h 8 _ rfl, Rd.x h 9 _ rfl, Rd.x h 10 _ rfl, Rd.x h 11 _ rfl, Rd.x h 12 _ rfl, Rd.x h 13 _ rfl⟩
theorem own_form {w : World} {base : Nat} {e : TypeId} {size n : Nat} {v : Value} {xs : List Value} (h : w.ownsRow base e size v n xs) : ∃ A m c, v = .slice A m c := by
  rcases h.2 with ⟨rfl, _⟩ | ⟨g', cap, cur, rfl, _⟩
  · exact ⟨_, _, _, rfl⟩
  · exact ⟨_, _, _, rfl⟩
theorem own_other {w W : World} {base : Nat} {e : TypeId} {size n g1 g2 : Nat} {v : Value} {xs : List Value} (h : w.ownsRow base e size v n xs) (h1 : g1 < base) (h2 : g2 < base) (ho : ∀ k, k ≠ g1 → k ≠ g2 → W.heap[k]? = w.heap[k]?) : W.ownsRow base e size v n xs := by
  refine ⟨h.1, ?_⟩
  rcases h.2 with h0 | ⟨g', cap, cur, hv, hb, hc, hr⟩
  · exact Or.inl h0
  · exact Or.inr ⟨g', cap, cur, hv, hb, (ho g' (by omega) (by omega)).trans hc, hr⟩
theorem own_base {w : World} {base base' : Nat} {e : TypeId} {size n : Nat} {v : Value} {xs : List Value} (h : w.ownsRow base e size v n xs) (hb : base' ≤ base) : w.ownsRow base' e size v n xs := by
  refine ⟨h.1, ?_⟩
  rcases h.2 with h0 | ⟨g', cap, cur, hv, hb', hc⟩
  · exact Or.inl h0
  · exact Or.inr ⟨g', cap, cur, hv, Nat.le_trans hb hb', hc⟩
theorem Rs.kind {w : World} {b : Nat} {s : ByteArray} {e : Nat} {st : Plain.St} (h : Rs w b 66 s e st zeroX) (k : Int) : Rs (w.setCell ⟨b, 6, none⟩ (.int .i64 k)) b 66 s e st (timeX k 0) := by
  have := Rd.setX h 0 (.int .i64 k)
  exact this
theorem Rs.time {w : World} {b : Nat} {s : ByteArray} {e : Nat} {st : Plain.St} {k : Int} (h : Rs w b 66 s e st (timeX k 0)) (t : Int) : Rs (w.setCell ⟨b, 7, none⟩ (.int .i64 t)) b 66 s e st (timeX k t) := by
  have := Rd.setX h 1 (.int .i64 t)
  exact this

end Go.Proofs.YteeekdffbcbamaaGreatDoor
