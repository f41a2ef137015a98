/-
  WALKS: two lists of sentences that are equal (sameAll).
-/
import Derived.Test.YteeekdffbcbamaaGreatDoorG7
import Derived.StillTailTactics
namespace Go.Proofs.YteeekdffbcbamaaGreatDoor
open Go.RowKit

/-- Sentences that lie in a slice at A, each with its numbers of satellites. -/
def SnAt (W : World) (A : Option Addr) (es : List (Plain.Sn × Value)) : Prop :=
  ∀ j (h : j < es.length), ∃ g o, A = some ⟨g, o, none⟩ ∧ (∃ Aj cj, es[j].2 = .slice Aj es[j].1.prns.length cj ∧ PrL W Aj es[j].1.prns) ∧ ∀ k u, (snCells es[j].1 es[j].2)[k]? = some u → W.cell? ⟨g, o + j * 14 + k, none⟩ = some u
theorem SnAt.below {w w' : World} {A : Option Addr} {es : List (Plain.Sn × Value)} (h : SnAt w A es) (hb : Below w.heap.size w w') : SnAt w' A es := by
  intro j hj
  obtain ⟨g, o, hA, ⟨Aj, cj, e, hp⟩, hc⟩ := h j hj
  refine ⟨g, o, hA, ⟨Aj, cj, e, hp.below hb (Nat.le_refl _)⟩, fun k u hk => ?_⟩
  have := hc k u hk
  exact (hb.cell (cell_lt this)).trans this
set_option maxRecDepth 100000 in
set_option maxHeartbeats 4000000 in
theorem sameAll_any (es1 es2 : List (Plain.Sn × Value)) (A1 A2 : Option Addr) (n c1 c2 : Nat) (w : World) (hn1 : es1.length = n) (hn2 : es2.length = n) (hn : n ≤ 1000000) (hp : ∀ e ∈ es1, e.1.prns.length ≤ 9223372036854775807)
    (he : es1.map (·.1) = es2.map (·.1)) (h1 : SnAt w A1 es1) (h2 : SnAt w A2 es2) :
    Calls Tryz.prog 11 #[.slice A1 n c1, .slice A2 n c2] w fun en w' => en = .returned (.bool true) ∧ Below w.heap.size w w' := by
  have HP := Lib.hid (And.intro hp (And.intro he (And.intro hn1 hn2)))
  have H1 := Lib.hid h1
  have H2 := Lib.hid h2
  clear hp he h1 h2 hn1 hn2
  go_enter Tryz.func11, Tryz.ntmps11
  go_wp2_with fail
  go_loopw [5] (fun i wr => ∃ k : Nat, k ≤ n ∧ i = .int .i64 k ∧ Below w.heap.size w wr) (fun i _ => n - (intOf i).toNat)
  case atStart => exact ⟨0, Nat.zero_le _, rfl, Below.refl _ _⟩
  case round =>
    obtain ⟨k, hk, rfl, hb⟩ := hrel
    have HB := Lib.hid hb; clear hb
    by_cases hlt : k < n
    · obtain ⟨hp, he, hn1, hn2⟩ := HP.out
      have hk1 : k < es1.length := by omega
      have hk2 : k < es2.length := by omega
      obtain ⟨a1, o1, e1, ⟨B1, d1, v1, p1⟩, g1⟩ := (H1.out.below HB.out) k hk1
      obtain ⟨a2, o2, e2, ⟨B2, d2, v2, p2⟩, g2⟩ := (H2.out.below HB.out) k hk2
      have hx : es2[k].1 = es1[k].1 := by
        have := congrArg (fun l => l[k]?) he
        simp only [List.getElem?_map, List.getElem?_eq_getElem hk1, List.getElem?_eq_getElem hk2, Option.map_some] at this
        injection this with this
        exact this.symm
      have hpl := hp _ (List.getElem_mem hk1)
      rw [v1] at g1
      rw [v2] at g2
      rw [hx] at g2 p2
      generalize es1[k].1 = x at *
      have HS := Lib.hid (fun W h1 h2 => same_eq x B1 B2 d1 d2 W hpl h1 h2)
      subst e1 e2
      have HP1 := Lib.hid p1
      have HP2 := Lib.hid p2
      clear hp he hn1 hn2 hk1 hk2 hx hpl v1 v2 p1 p2
      unfold snCells at g1 g2 HS
      generalize x.prns.length = pn at *
      have x0 : wr.cell? ⟨a1, o1 + k * 14, none⟩ = some (.int .i64 x.kind) := g1 0 _ rfl
      have x1 : wr.cell? ⟨a1, o1 + k * 14 + 1, none⟩ = some (.int .i64 x.time) := g1 1 _ rfl
      have x2 : wr.cell? ⟨a1, o1 + k * 14 + 2, none⟩ = some (.bool x.ok) := g1 2 _ rfl
      have x3 : wr.cell? ⟨a1, o1 + k * 14 + 3, none⟩ = some (.int .i64 x.p0) := g1 3 _ rfl
      have x4 : wr.cell? ⟨a1, o1 + k * 14 + 4, none⟩ = some (.int .i64 x.p1) := g1 4 _ rfl
      have x5 : wr.cell? ⟨a1, o1 + k * 14 + 5, none⟩ = some (.int .i64 x.p2) := g1 5 _ rfl
      have x6 : wr.cell? ⟨a1, o1 + k * 14 + 6, none⟩ = some (.int .i64 x.l0) := g1 6 _ rfl
      have x7 : wr.cell? ⟨a1, o1 + k * 14 + 7, none⟩ = some (.int .i64 x.l1) := g1 7 _ rfl
      have x8 : wr.cell? ⟨a1, o1 + k * 14 + 8, none⟩ = some (.int .i64 x.l2) := g1 8 _ rfl
      have x9 : wr.cell? ⟨a1, o1 + k * 14 + 9, none⟩ = some (.slice B1 pn d1) := g1 9 _ rfl
      have x10 : wr.cell? ⟨a1, o1 + k * 14 + 10, none⟩ = some (.int .i64 x.prn) := g1 10 _ rfl
      have x11 : wr.cell? ⟨a1, o1 + k * 14 + 11, none⟩ = some (.int .i64 x.lag) := g1 11 _ rfl
      have x12 : wr.cell? ⟨a1, o1 + k * 14 + 12, none⟩ = some (.int .i64 x.power) := g1 12 _ rfl
      have x13 : wr.cell? ⟨a1, o1 + k * 14 + 13, none⟩ = some (.string x.text) := g1 13 _ rfl
      have y0 : wr.cell? ⟨a2, o2 + k * 14, none⟩ = some (.int .i64 x.kind) := g2 0 _ rfl
      have y1 : wr.cell? ⟨a2, o2 + k * 14 + 1, none⟩ = some (.int .i64 x.time) := g2 1 _ rfl
      have y2 : wr.cell? ⟨a2, o2 + k * 14 + 2, none⟩ = some (.bool x.ok) := g2 2 _ rfl
      have y3 : wr.cell? ⟨a2, o2 + k * 14 + 3, none⟩ = some (.int .i64 x.p0) := g2 3 _ rfl
      have y4 : wr.cell? ⟨a2, o2 + k * 14 + 4, none⟩ = some (.int .i64 x.p1) := g2 4 _ rfl
      have y5 : wr.cell? ⟨a2, o2 + k * 14 + 5, none⟩ = some (.int .i64 x.p2) := g2 5 _ rfl
      have y6 : wr.cell? ⟨a2, o2 + k * 14 + 6, none⟩ = some (.int .i64 x.l0) := g2 6 _ rfl
      have y7 : wr.cell? ⟨a2, o2 + k * 14 + 7, none⟩ = some (.int .i64 x.l1) := g2 7 _ rfl
      have y8 : wr.cell? ⟨a2, o2 + k * 14 + 8, none⟩ = some (.int .i64 x.l2) := g2 8 _ rfl
      have y9 : wr.cell? ⟨a2, o2 + k * 14 + 9, none⟩ = some (.slice B2 pn d2) := g2 9 _ rfl
      have y10 : wr.cell? ⟨a2, o2 + k * 14 + 10, none⟩ = some (.int .i64 x.prn) := g2 10 _ rfl
      have y11 : wr.cell? ⟨a2, o2 + k * 14 + 11, none⟩ = some (.int .i64 x.lag) := g2 11 _ rfl
      have y12 : wr.cell? ⟨a2, o2 + k * 14 + 12, none⟩ = some (.int .i64 x.power) := g2 12 _ rfl
      have y13 : wr.cell? ⟨a2, o2 + k * 14 + 13, none⟩ = some (.string x.text) := g2 13 _ rfl
      have hlt' : (k : Int) < n := by omega
      go_upto_region 6 with (fail)
      go_still_tail 8, (by kernel_rfl)
      change wpList _ _ _ _ _ wr.drew
      clear x0 x1 x2 x3 x4 x5 x6 x7 x8 x9 x10 x11 x12 x13 y0 y1 y2 y3 y4 y5 y6 y7 y8 y9 y10 y11 y12 y13 g1 g2
      have hbd : Below w.heap.size w wr.drew := Below.drew HB.out
      have HBD := Lib.hid hbd; clear hbd
      have hq1 : PrL wr.drew B1 x.prns := HP1.out
      have hq2 : PrL wr.drew B2 x.prns := HP2.out
      have HQ := Lib.hid (And.intro hq1 hq2); clear hq1 hq2
      generalize wr.drew = w2 at *
      go_wp2_with fail
      refine (HS.out w2 HQ.out.1 HQ.out.2).mono ?_
      rintro en w3 ⟨rfl, hb3⟩
      have HB3 := Lib.hid (HBD.out.trans (hb3.mono HBD.out.size)); clear hb3
      go_wp2_with fail
      go_roundw
      case rel => exact ⟨k + 1, by omega, by go_num, HB3.out⟩
      case measure => simp [intOf]; omega
    · obtain rfl : k = n := by omega
      go_wp2_with fail
      go_ret
      exact ⟨rfl, HB.out⟩
end Go.Proofs.YteeekdffbcbamaaGreatDoor
