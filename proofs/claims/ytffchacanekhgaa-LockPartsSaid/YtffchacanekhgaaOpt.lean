/-
  AN APPEND OF A SLICE that may be nil to a row of the call's own; the relation that a region leaves that runs a detector and lays its three results.
-/
import Derived.Test.YtffchacanekhgaaRunD
import Derived.Test.YtffchacanekhgaaPlainF
import Derived.Laws.AppendOwnNone
namespace Go.Proofs.Ytffchacanekhgaa
open Go.RowKit

theorem grownBy_refl (w : World) (row : Option Nat) : w.grownBy w row := ⟨rfl, rfl, rfl, Nat.le_refl _, fun _ _ _ => rfl⟩

theorem wpList_append_opt {P : Program} {w : World} {ops : Array Oper} {rest : List Oper} {o : Oper} {a : Act} {Q : Exit → Act → World → Prop} (hgd : o.guard = none) (s x : Operand) (t : TypeId)
    (ho : o.op = .call { callee := .builtin .append, args := #[s, x], argTypes := #[t, t] })
    (base : Nat) (e : TypeId) (i : TypeInfo) (z : Value) (size bytes : Nat) (ht : P.underlying t = some (.slice e)) (hi : P.info? e = some i) (hz : i.zero = some z)
    (hsize : i.size = size) (hby : i.bytes = bytes) (hzs : z.cells.size = size) (hsz : 0 < size)
    (v : Value) (n : Nat) (xs : List Value) (hs : a.eval s = v) (hown : w.ownsRow base e size v n xs)
    (A : Option Addr) (m c : Nat) (news : List Value) (hx : a.eval x = .slice A m c) (hA : A = none → m = 0 ∧ c = 0) (hl : news.length = m * size)
    (hnews : ∀ ad, A = some ad → ∀ j u, news[j]? = some u → w.cell? (ad.add j) = some u) (h1 : ∀ u ∈ news, u.oneCell' = true)
    (h63 : n + m ≤ maxLen) (hbytes : (n + m) * bytes ≤ 140737488355328) (hbase : base ≤ w.heap.size)
    (h : ∀ v' w', w'.ownsRow base e size v' (n + m) (xs ++ news) → w.grownBy w' v.ownBlock → wpList P ops Q rest (a.put o.dst v') w') : wpList P ops Q (o :: rest) a w := by
  cases A with
  | none =>
    obtain ⟨rfl, rfl⟩ := hA rfl
    have hn : news = [] := List.length_eq_zero_iff.1 (by omega)
    subst hn
    refine wpList_append_own_none hgd s x t ho base e i size ht hi v n xs hs hown hx ?_
    exact h v w (by simpa using hown) (grownBy_refl _ _)
  | some ad =>
    exact wpList_append_own _ hgd s x t ho base e i z size bytes ht hi hz hsize hby hzs hsz v n xs hs hown ad m c news hx hl (hnews ad rfl) h1 h63 hbytes hbase (fun v' w' h2 h3 _ => h v' w' h2 h3)

theorem empty_row (w : World) (base size : Nat) (e : TypeId) (hb : base ≤ w.heap.size) : (w.alloc (.cells #[] e)).ownsRow base e size (.slice (some ⟨w.heap.size, 0, none⟩) 0 0) 0 [] :=
  ⟨by simp, Or.inr ⟨w.heap.size, 0, #[], rfl, hb, heap_new_at _ _ _ rfl, Nat.le_refl _, by unfold maxLen; omega, by simp, by simp⟩⟩

theorem own_block {w : World} {base size n : Nat} {e : TypeId} {v : Value} {xs : List Value} (h : w.ownsRow base e size v n xs) : ∀ r, v.ownBlock = some r → base ≤ r := by
  intro r hr
  rcases h.2 with ⟨rfl, _⟩ | ⟨g, cap, cur, rfl, hge, _⟩
  · cases hr
  · cases hr
    exact hge
theorem ReadsB.cells {w : World} {B : Nat} {A : Option Addr} {cs : List Bool} (h : ReadsB w B A cs) : ∀ ad, A = some ad → ∀ j u, (cs.map Value.bool)[j]? = some u → w.cell? (ad.add j) = some u := by
  intro ad e j u hu
  rw [List.getElem?_map] at hu
  by_cases hj : j < cs.length
  · obtain ⟨ad', e', _, hc⟩ := h j hj
    rw [e] at e'
    cases e'
    rw [List.getElem?_eq_getElem hj] at hu
    rw [hc]
    exact hu
  · rw [List.getElem?_eq_none (by omega)] at hu
    cases hu
theorem bools_one (cs : List Bool) : ∀ u ∈ cs.map Value.bool, u.oneCell' = true := by
  intro u hu
  obtain ⟨b, _, rfl⟩ := List.mem_map.1 hu
  rfl
/-- Two lists laid behind each other in a row of the call's own. -/
theorem own_two {w : World} {base a b k : Nat} {v : Value} {X Y L : List Bool} (h : w.ownsRow base 4 1 v (0 + a + b) (([] ++ X.map Value.bool) ++ Y.map Value.bool)) (hk : a + b = k) (hL : L = X ++ Y) :
    ∃ A c, v = .slice A k c ∧ ReadsB w w.heap.size A L := by
  subst hL hk
  rw [List.nil_append, ← List.map_append, Nat.zero_add] at h
  exact (own_reads h).2

/-- The same behind a guard that is met. -/
theorem wpList_wanted {P : Program} {w : World} {ops : Array Oper} {rest : List Oper} {o : Oper} {a : Act} {Q : Exit → Act → World → Prop} (hw : Region.wanted o (yielded ops a.tmps) = true)
    (h : ∀ K : Act → World → Prop, (∀ a w, wpList P ops Q rest a w → K a w) → o.wp P a w K Q) : wpList P ops Q (o :: rest) a w :=
  wpList_step fun K hK => by rw [if_pos hw]; exact h K hK
theorem wpList_append_opt_if {P : Program} {w : World} {ops : Array Oper} {rest : List Oper} {o : Oper} {a : Act} {Q : Exit → Act → World → Prop} (hw : Region.wanted o (yielded ops a.tmps) = true) (s x : Operand) (t : TypeId)
    (ho : o.op = .call { callee := .builtin .append, args := #[s, x], argTypes := #[t, t] })
    (base : Nat) (e : TypeId) (i : TypeInfo) (z : Value) (size bytes : Nat) (ht : P.underlying t = some (.slice e)) (hi : P.info? e = some i) (hz : i.zero = some z)
    (hsize : i.size = size) (hby : i.bytes = bytes) (hzs : z.cells.size = size) (hsz : 0 < size)
    (v : Value) (n : Nat) (xs : List Value) (hs : a.eval s = v) (hown : w.ownsRow base e size v n xs)
    (A : Option Addr) (m c : Nat) (news : List Value) (hx : a.eval x = .slice A m c) (hA : A = none → m = 0 ∧ c = 0) (hl : news.length = m * size)
    (hnews : ∀ ad, A = some ad → ∀ j u, news[j]? = some u → w.cell? (ad.add j) = some u) (h1 : ∀ u ∈ news, u.oneCell' = true)
    (h63 : n + m ≤ maxLen) (hbytes : (n + m) * bytes ≤ 140737488355328) (hbase : base ≤ w.heap.size)
    (h : ∀ v' w', w'.ownsRow base e size v' (n + m) (xs ++ news) → w.grownBy w' v.ownBlock → wpList P ops Q rest (a.put o.dst v') w') : wpList P ops Q (o :: rest) a w := by
  cases A with
  | none =>
    obtain ⟨rfl, rfl⟩ := hA rfl
    have hn : news = [] := List.length_eq_zero_iff.1 (by omega)
    subst hn
    refine wpList_wanted hw fun K hK => ?_
    have hrun := run_append_owned_none (P := P) (w := w) base t o.type e i size ht hi v n xs hown
    unfold Oper.wp
    simp [execOp, ho, resolve, invoke, builtin, hs, hx, hrun, Result.andThen]
    exact hK _ _ (h v w (by simpa using hown) (grownBy_refl _ _))
  | some ad =>
    exact wpList_wanted hw fun K hK => wp_append_own w s x t ho base e i z size bytes ht hi hz hsize hby hzs hsz v n xs hs hown ad m c news hx hl (hnews ad rfl) h1 h63 hbytes hbase fun v' w' h2 h3 _ => hK _ _ (h v' w' h2 h3)

/-- What the region leaves: the detector's block, the list, no error. -/
def Ran (wA : World) (n m u d : Int) (b : Bool) (k : Nat) (L : List Bool) (s1 s2 s3 : Value) (wx : World) : Prop :=
  ∃ g A c, s1 = .pointer (some ⟨g, 0, none⟩) ∧ s2 = .slice A k c ∧ s3 = .int .i64 0 ∧ wA.heap.size ≤ g ∧ Lkb wx g n m u d b ∧ ReadsB wx wx.heap.size A L ∧ From wA.heap.size A ∧ (A = none → k = 0 ∧ c = 0) ∧ Below wA.heap.size wA wx
theorem ran_a {wA w4 : World} {n m u d : Int} {b : Bool} {A : Option Addr} {k c : Nat} {L : List Bool} (hr : ReadsB w4 w4.heap.size A L) (hf : From wA.drew.heap.size A) (h0 : A = none → k = 0 ∧ c = 0) (hb : Below wA.drew.heap.size wA.drew w4) :
    Ran wA n m u d b k L (.pointer (some ⟨w4.heap.size, 0, none⟩)) (.slice A k c) (.int .i64 0) (w4.alloc (.cells #[.int .i64 n, .int .i64 m, .int .i64 u, .int .i64 d, .bool b] 23)) := by
  have hb5 : Below wA.heap.size wA w4 := (Below.refl wA.heap.size wA).drew.trans hb
  exact ⟨w4.heap.size, A, c, rfl, rfl, rfl, hb5.size, heap_new_at _ _ _ rfl, (hr.below (below1 _ _)).more (by simp), hf, h0, hb5.alloc hb5.size _⟩
theorem ran_b {wA w4 : World} {n m u d : Int} {b : Bool} {A : Option Addr} {k c : Nat} {L : List Bool} (hr : ReadsB w4 w4.heap.size A L)
    (hf : From (wA.alloc (.cells #[.int .i64 0, .int .i64 0, .int .i64 0, .int .i64 0, .bool false] 23)).drew.heap.size A) (h0 : A = none → k = 0 ∧ c = 0)
    (hb : Below (wA.alloc (.cells #[.int .i64 0, .int .i64 0, .int .i64 0, .int .i64 0, .bool false] 23)).drew.heap.size (wA.alloc (.cells #[.int .i64 0, .int .i64 0, .int .i64 0, .int .i64 0, .bool false] 23)).drew w4) :
    Ran wA n m u d b k L (.pointer (some ⟨wA.heap.size, 0, none⟩)) (.slice A k c) (.int .i64 0) (((((w4.setCell ⟨wA.heap.size, 0, none⟩ (.int .i64 n)).setCell ⟨wA.heap.size, 1, none⟩ (.int .i64 m)).setCell ⟨wA.heap.size, 2, none⟩ (.int .i64 u)).setCell ⟨wA.heap.size, 3, none⟩ (.int .i64 d)).setCell ⟨wA.heap.size, 4, none⟩ (.bool b)) := by
  have hz : (wA.alloc (.cells #[.int .i64 0, .int .i64 0, .int .i64 0, .int .i64 0, .bool false] 23)).drew.heap.size = wA.heap.size + 1 := by simp
  have hb5 : Below wA.heap.size wA w4 := ((below1 wA _).drew).trans (hb.mono (by simp))
  have hN : ∀ ad, A = some ad → wA.heap.size + 1 ≤ ad.block := fun ad e => by have := hf ad e; simpa using this
  refine ⟨wA.heap.size, A, c, rfl, rfl, rfl, Nat.le_refl _, ?_, ?_, fun ad e => by have := hN ad e; omega, h0, below_set5 hb5 (Nat.le_refl _) _ _ _ _ _⟩
  · have h1 : Lkb (wA.alloc (.cells #[.int .i64 0, .int .i64 0, .int .i64 0, .int .i64 0, .bool false] 23)) wA.heap.size 0 0 0 0 false := heap_new_at _ _ _ rfl
    have h2 : Lkb (wA.alloc (.cells #[.int .i64 0, .int .i64 0, .int .i64 0, .int .i64 0, .bool false] 23)).drew wA.heap.size 0 0 0 0 false := h1
    exact (h2.below hb (by simp)).set5 _ _ _ _ _
  · exact (hr.set5 (fun ad e => by have := hN ad e; omega) _ _ _ _ _).more (by simp)
/-- What a step's region leaves. -/
def Stepd (wA : World) (n m u d : Int) (b : Bool) (s1 s2 : Value) (wx : World) : Prop :=
  ∃ g, s1 = .pointer (some ⟨g, 0, none⟩) ∧ s2 = .int .i64 0 ∧ wA.heap.size ≤ g ∧ Lkb wx g n m u d b ∧ Below wA.heap.size wA wx
theorem stepd_a {wA w4 : World} {n m u d : Int} {b : Bool} (hb : Below wA.drew.heap.size wA.drew w4) :
    Stepd wA n m u d b (.pointer (some ⟨w4.heap.size, 0, none⟩)) (.int .i64 0) (w4.alloc (.cells #[.int .i64 n, .int .i64 m, .int .i64 u, .int .i64 d, .bool b] 23)) := by
  have hb5 : Below wA.heap.size wA w4 := (Below.refl wA.heap.size wA).drew.trans hb
  exact ⟨w4.heap.size, rfl, rfl, hb5.size, heap_new_at _ _ _ rfl, hb5.alloc hb5.size _⟩
theorem stepd_b {wA w4 : World} {n m u d : Int} {b : Bool}
    (hb : Below (wA.alloc (.cells #[.int .i64 0, .int .i64 0, .int .i64 0, .int .i64 0, .bool false] 23)).drew.heap.size (wA.alloc (.cells #[.int .i64 0, .int .i64 0, .int .i64 0, .int .i64 0, .bool false] 23)).drew w4) :
    Stepd wA n m u d b (.pointer (some ⟨wA.heap.size, 0, none⟩)) (.int .i64 0) (((((w4.setCell ⟨wA.heap.size, 0, none⟩ (.int .i64 n)).setCell ⟨wA.heap.size, 1, none⟩ (.int .i64 m)).setCell ⟨wA.heap.size, 2, none⟩ (.int .i64 u)).setCell ⟨wA.heap.size, 3, none⟩ (.int .i64 d)).setCell ⟨wA.heap.size, 4, none⟩ (.bool b)) := by
  have hb5 : Below wA.heap.size wA w4 := ((below1 wA _).drew).trans (hb.mono (by simp))
  refine ⟨wA.heap.size, rfl, rfl, Nat.le_refl _, ?_, below_set5 hb5 (Nat.le_refl _) _ _ _ _ _⟩
  have h1 : Lkb (wA.alloc (.cells #[.int .i64 0, .int .i64 0, .int .i64 0, .int .i64 0, .bool false] 23)) wA.heap.size 0 0 0 0 false := heap_new_at _ _ _ rfl
  have h2 : Lkb (wA.alloc (.cells #[.int .i64 0, .int .i64 0, .int .i64 0, .int .i64 0, .bool false] 23)).drew wA.heap.size 0 0 0 0 false := h1
  exact (h2.below hb (by simp)).set5 _ _ _ _ _
theorem shape_b {wA w4 : World}
    (hb : Below (wA.alloc (.cells #[.int .i64 0, .int .i64 0, .int .i64 0, .int .i64 0, .bool false] 23)).drew.heap.size (wA.alloc (.cells #[.int .i64 0, .int .i64 0, .int .i64 0, .int .i64 0, .bool false] 23)).drew w4) :
    w4.cell? ⟨wA.heap.size, 0, none⟩ = some (.int .i64 0) ∧ w4.cell? ⟨wA.heap.size, 1, none⟩ = some (.int .i64 0) ∧ w4.cell? ⟨wA.heap.size, 2, none⟩ = some (.int .i64 0) ∧ w4.cell? ⟨wA.heap.size, 3, none⟩ = some (.int .i64 0) ∧ w4.cell? ⟨wA.heap.size, 4, none⟩ = some (.bool false) ∧
    (∀ i, w4.frozen? ⟨wA.heap.size, i, none⟩ = false) ∧ wA.heap.size + 1 ≤ w4.heap.size := by
  have h1 : Lkb (wA.alloc (.cells #[.int .i64 0, .int .i64 0, .int .i64 0, .int .i64 0, .bool false] 23)) wA.heap.size 0 0 0 0 false := heap_new_at _ _ _ rfl
  have h2 : Lkb (wA.alloc (.cells #[.int .i64 0, .int .i64 0, .int .i64 0, .int .i64 0, .bool false] 23)).drew wA.heap.size 0 0 0 0 false := h1
  have h3 := h2.below hb (by simp)
  obtain ⟨a0, a1, a2, a3, a4⟩ := h3.cells
  exact ⟨a0, a1, a2, a3, a4, h3.frozen, by have := hb.size; simpa using this⟩
theorem part_step (n m : Int) (cs L : List Bool) (hL : Plain.runL n m (0, 0, false) cs = L) (hv : Plain.chk n m 0 0 false = 0) (j : Nat) (hj : j < cs.length) (u d : Int) (b : Bool) (hs : Plain.runS n m (0, 0, false) (cs.take j) = (u, d, b)) :
    ∃ (u' d' : Int) (b' : Bool), Plain.stU n u cs[j] = u' ∧ Plain.stD m d cs[j] = d' ∧ Plain.stB n m u d b cs[j] = b' ∧ Plain.runS n m (0, 0, false) (cs.take (j + 1)) = (u', d', b') ∧ Plain.chk n m u d b = 0 ∧ Plain.chk n m u' d' b' = 0 ∧ ∃ h : j < L.length, L[j] = b' := by
  subst hL
  have h1 := Plain.runS_take n m (0, 0, false) cs j hj
  rw [hs] at h1
  have h2 := Plain.chk_run n m (0, 0, false) (cs.take j) hv
  rw [hs] at h2
  have hl : j < (Plain.runL n m (0, 0, false) cs).length := by rw [Plain.runL_length]; exact hj
  exact ⟨_, _, _, rfl, rfl, rfl, h1, h2, Plain.chk_step n m u d b cs[j] h2, hl, by rw [Plain.runL_get n m _ cs j hj hl, h1]; rfl⟩
end Go.Proofs.Ytffchacanekhgaa
