/-
  Run's contract: its list lies in a block of its own.
-/
import Derived.Test.YtffchacanekhgaaAwake
namespace Go.Proofs.Ytffchacanekhgaa
open Go.RowKit

/-- What a slice points to lies in block b or behind it. -/
def From (b : Nat) (A : Option Addr) : Prop := ∀ ad, A = some ad → b ≤ ad.block
theorem own_from {w : World} {base n : Nat} {A : Option Addr} {c : Nat} {xs : List Value} (h : w.ownsRow base 4 1 (.slice A n c) n xs) : From base A := by
  intro ad e
  subst e
  rcases h.2 with ⟨h1, h0⟩ | ⟨g, cap, cur, h1, hge, _⟩
  · cases h1
  · cases h1
    exact hge
theorem own_nil {w : World} {base n : Nat} {A : Option Addr} {c : Nat} {xs : List Value} (h : w.ownsRow base 4 1 (.slice A n c) n xs) : A = none → n = 0 ∧ c = 0 := by
  intro e
  subst e
  rcases h.2 with ⟨h1, h0⟩ | ⟨g, cap, cur, h1, _⟩
  · cases h1
    exact ⟨rfl, rfl⟩
  · cases h1
theorem run10_own (n m u d : Int) (b : Bool) (A : Option Addr) (k cap : Nat) (cs : List Bool) (u' d' : Int) (b' : Bool) (L : List Bool) (w : World) (hl : cs.length = k) (hk : k ≤ 10000) (hv : Plain.chk n m u d b = 0)
    (hS : Plain.runS n m (u, d, b) cs = (u', d', b')) (hL : Plain.runL n m (u, d, b) cs = L) (hr : ReadsB w w.heap.size A cs) :
    Calls Try.prog 10 #[.agg #[.int .i64 n, .int .i64 m, .int .i64 u, .int .i64 d, .bool b], .slice A k cap] w fun e w' => ∃ A' c', e = .returned (.tuple #[.agg #[.int .i64 n, .int .i64 m, .int .i64 u', .int .i64 d', .bool b'], .slice A' k c', .int .i64 0]) ∧
      ReadsB w' w'.heap.size A' L ∧ From w.heap.size A' ∧ (A' = none → k = 0 ∧ c' = 0) ∧ L.length = k ∧ Below w.heap.size w w' := by
  subst hl
  refine (run10_ok n m u d b A cap cs w hk hv hr).mono ?_
  rintro e w' ⟨v', rfl, ho, hb⟩
  rw [hS, hL] at *
  obtain ⟨h1, A', c', rfl, h2⟩ := own_reads ho
  exact ⟨A', c', rfl, h2, own_from ho, own_nil ho, h1, hb⟩
theorem ReadsB.set5 {w : World} {B : Nat} {A : Option Addr} {cs : List Bool} (h : ReadsB w B A cs) {g : Nat} (hg : ∀ ad, A = some ad → ad.block ≠ g) (v0 v1 v2 v3 v4 : Value) : ReadsB (((((w.setCell ⟨g, 0, none⟩ v0).setCell ⟨g, 1, none⟩ v1).setCell ⟨g, 2, none⟩ v2).setCell ⟨g, 3, none⟩ v3).setCell ⟨g, 4, none⟩ v4) B A cs := fun j hj => by
  obtain ⟨ad, e, hlt, hc⟩ := h j hj
  have hne : ad.block ≠ g := hg ad e
  refine ⟨ad, e, hlt, ?_⟩
  have hh : ∀ (W : World) (v : Value) (o : Nat), (W.setCell ⟨g, o, none⟩ v).cell? (ad.add j) = W.cell? (ad.add j) := fun W v o => by
    unfold World.cell?
    rw [Below.heap_setCell W ⟨g, o, none⟩ v (ad.add j).block (by rw [add_block]; exact hne)]
  rw [hh, hh, hh, hh, hh]
  exact hc
end Go.Proofs.Ytffchacanekhgaa
