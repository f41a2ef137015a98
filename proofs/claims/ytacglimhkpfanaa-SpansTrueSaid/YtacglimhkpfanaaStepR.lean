/-
  AN APPEND AS ONE STEP OF A REGION THAT DRAWS: to a row of the call's own, of a slice that may be nil.
-/
import Derived.Test.YtacglimhkpfanaaAllW
import Derived.Laws.AppendOwnNone
namespace Go.Proofs.Ytacglimhkpfanaa
open Go.RowKit

theorem grownBy_refl (w : World) (row : Option Nat) : w.grownBy w row := ⟨rfl, rfl, rfl, Nat.le_refl _, fun _ _ _ => rfl⟩
theorem step_append_opt {P : Program} {ops : Array Oper} {o : Oper} {a : Act} {w : World} {K : Act → World → Prop} {Q : Exit → Act → World → Prop} {E : Prop}
    (hg : o.guard = none) (s x : Operand) (t : TypeId) (ho : o.op = Op.call { callee := Callee.builtin Builtin.append, args := #[s, x], argTypes := #[t, t] })
    (base : Nat) (e : TypeId) (i : TypeInfo) (z : Value) (size bytes : Nat) (ht : P.underlying t = some (.slice e)) (hi : P.info? e = some i) (hz : i.zero = some z)
    (hsize : i.size = size) (hby : i.bytes = bytes) (hzs : z.cells.size = size) (hsz : 0 < size)
    (v : Value) (n : Nat) (xs : List Value) (hs : a.eval s = v) (hown : w.ownsRow base e size v n xs)
    (A : Option Addr) (m c : Nat) (news : List Value) (hx : a.eval x = .slice A m c) (hA : A = none → m = 0 ∧ c = 0) (hl : news.length = m * size)
    (hnews : ∀ ad, A = some ad → ∀ j u, news[j]? = some u → w.cell? (ad.add j) = some u) (h1 : ∀ u ∈ news, u.oneCell' = true)
    (h63 : n + m ≤ maxLen) (hbytes : (n + m) * bytes ≤ 140737488355328) (hbase : base ≤ w.heap.size)
    (h : ∀ v' w', w'.ownsRow base e size v' (n + m) (xs ++ news) → w.grownBy w' v.ownBlock → K (a.put o.dst v') w') :
    if Region.wanted o (yielded ops a.tmps) = true then Oper.wp P o a w K Q else E := by
  have hw : Region.wanted o (yielded ops a.tmps) = true := by simp [Region.wanted, hg]
  rw [if_pos hw]
  cases A with
  | none =>
    obtain ⟨rfl, rfl⟩ := hA rfl
    have hn : news = [] := List.length_eq_zero_iff.1 (by omega)
    subst hn
    have hrun := run_append_owned_none (P := P) (w := w) base t o.type e i size ht hi v n xs hown
    unfold Oper.wp
    simp [execOp, ho, resolve, invoke, builtin, hs, hx, hrun, Result.andThen]
    exact h v w (by simpa using hown) (grownBy_refl _ _)
  | some ad =>
    exact wp_append_own w s x t ho base e i z size bytes ht hi hz hsize hby hzs hsz v n xs hs hown ad m c news hx hl (hnews ad rfl) h1 h63 hbytes hbase fun v' w' h2 h3 _ => h v' w' h2 h3
theorem ins_close {w : World} {base base' t m j : Nat} {v : Value} {p q r : Int} {A B : List Plain.Tri} (hb : base' ≤ base) (h : w.ownsRow base 44 3 v (0 + t + 1 + m) (([] ++ flat3 A) ++ [.int .i64 p, .int .i64 q, .int .i64 r] ++ flat3 B)) (hm : t + m = j) :
    w.ownsRow base' 44 3 v (j + 1) (flat3 (A ++ (p, q, r) :: B)) := by
  have e : flat3 (A ++ (p, q, r) :: B) = ([] ++ flat3 A) ++ [.int .i64 p, .int .i64 q, .int .i64 r] ++ flat3 B := by simp [flat3]
  have en : 0 + t + 1 + m = j + 1 := by omega
  rw [e, ← en]
  obtain ⟨h1, h2⟩ := h
  refine ⟨h1, ?_⟩
  rcases h2 with h2 | ⟨g, cap, cur, e1, e2, e3⟩
  · exact Or.inl h2
  · exact Or.inr ⟨g, cap, cur, e1, by omega, e3⟩
theorem own_cap {w : World} {base size n c : Nat} {e : TypeId} {A : Option Addr} {xs : List Value} (h : w.ownsRow base e size (.slice A n c) n xs) : n ≤ c := by
  rcases h.2 with ⟨hv, h0⟩ | ⟨g, cap, cur, hv, _, _, hc, _⟩
  · cases hv; exact Nat.le_refl _
  · cases hv; exact hc
theorem own_e (w : World) (base : Nat) (hb : base ≤ w.heap.size) : (w.alloc (.cells #[] 44)).ownsRow base 44 3 (.slice (some ⟨w.heap.size, 0, none⟩) 0 0) 0 [] :=
  ⟨by simp, Or.inr ⟨w.heap.size, 0, #[], rfl, hb, heap_new _ _, Nat.le_refl _, by unfold maxLen; omega, by simp, by simp⟩⟩
theorem cells_in {w w' : World} {B g i0 : Nat} {L : List Value} (hb : Below B w w') (hg : g < B) (h : ∀ j u, L[j]? = some u → w.cell? ⟨g, i0 + j, none⟩ = some u) : ∀ ad, some (⟨g, i0, none⟩ : Addr) = some ad → ∀ j u, L[j]? = some u → w'.cell? (ad.add j) = some u := by
  intro ad e j u hu
  cases e
  have e : (⟨g, i0, none⟩ : Addr).add j = ⟨g, i0 + j, none⟩ := by
    unfold Addr.add
    split
    · subst_vars; rfl
    · rfl
  rw [e]
  exact (hb.cell (p := ⟨g, i0 + j, none⟩) hg).trans (h j u hu)
end Go.Proofs.Ytacglimhkpfanaa
