/-
  WALKS: the law ReportLines.
-/
import Derived.Test.YteeekdffbcbamaaGreatDoorRLines
import Derived.Test.YteeekdffbcbamaaGreatDoorG7
namespace Go.Proofs.YteeekdffbcbamaaGreatDoor
open Go.RowKit
theorem heldB {w W : World} {Q : Prop} (h : Below w.heap.size w W ∧ Q) : Below w.heap.size w W := h.1
theorem keep14 {w W : World} {a o : Nat} {c0 c1 c2 c3 c4 c5 c6 c7 c8 c9 c10 c11 c12 c13 : Value} (hb : Below w.heap.size w W)
    (g : ∀ (k : Nat) u, (#[c0, c1, c2, c3, c4, c5, c6, c7, c8, c9, c10, c11, c12, c13] : Array Value)[k]? = some u → w.cell? ⟨a, o + k, none⟩ = some u) :
    Below w.heap.size w W ∧ W.cell? ⟨a, o, none⟩ = some c0 ∧ W.cell? ⟨a, o + 1, none⟩ = some c1 ∧ W.cell? ⟨a, o + 2, none⟩ = some c2 ∧ W.cell? ⟨a, o + 3, none⟩ = some c3 ∧ W.cell? ⟨a, o + 4, none⟩ = some c4 ∧ W.cell? ⟨a, o + 5, none⟩ = some c5 ∧ W.cell? ⟨a, o + 6, none⟩ = some c6 ∧
      W.cell? ⟨a, o + 7, none⟩ = some c7 ∧ W.cell? ⟨a, o + 8, none⟩ = some c8 ∧ W.cell? ⟨a, o + 9, none⟩ = some c9 ∧ W.cell? ⟨a, o + 10, none⟩ = some c10 ∧ W.cell? ⟨a, o + 11, none⟩ = some c11 ∧ W.cell? ⟨a, o + 12, none⟩ = some c12 ∧ W.cell? ⟨a, o + 13, none⟩ = some c13 := by
  have h : ∀ (k : Nat) u, (#[c0, c1, c2, c3, c4, c5, c6, c7, c8, c9, c10, c11, c12, c13] : Array Value)[k]? = some u → W.cell? ⟨a, o + k, none⟩ = some u := fun k u hu => (hb.cell (cell_lt (g k u hu))).trans (g k u hu)
  exact ⟨hb, h 0 _ rfl, h 1 _ rfl, h 2 _ rfl, h 3 _ rfl, h 4 _ rfl, h 5 _ rfl, h 6 _ rfl, h 7 _ rfl, h 8 _ rfl, h 9 _ rfl, h 10 _ rfl, h 11 _ rfl, h 12 _ rfl, h 13 _ rfl⟩
theorem lines_both (es : List (Plain.Sn × Value)) (A : Option Addr) (n c : Nat) (w : World) (he : Env w) (hn : es.length = n) (h1 : SnAt w A es) (hp : ∀ e ∈ es, e.1.prns.length ≤ 9223372036854775807 ∧ e.1.text.size ≤ 1000000) :
    ∃ R : ByteArray × Int, (∀ W, Below w.heap.size w W → Calls Tryz.prog 9 #[.slice A n c] W (LinePost W R)) ∧ (∀ W, Below w.heap.size w W → Calls Tryz.prog 23 #[.slice A n c] W (LinePost W R)) := by
  by_cases h : n ≤ 200
  · exact ⟨linesR (es.map (·.1)) [], fun W hb => lines_any es A n c W (he.below hb he.1) hn h hp (h1.below hb), fun W hb => rlines_any es A n c W hn h hp (h1.below hb)⟩
  · exact ⟨(⟨#[]⟩, 4), fun W hb => lines_long n c A W (by omega), fun W hb => rlines_long n c A W (by omega)⟩
set_option maxRecDepth 100000 in
set_option maxHeartbeats 8000000 in
theorem lns_of (es : List (Plain.Sn × Value)) (A : Option Addr) (n c : Nat) (w : World) (he : Env w) (hn : es.length = n) (h1 : SnAt w A es) :
    Calls Tryz.prog 5 #[.slice A n c] w fun en w' => en = .returned (.bool true) ∧ Below w.heap.size w w' := by
  have HA := Lib.hid (fun W he => awake_any W he)
  have HE := Lib.hid he
  have HLN := Lib.hid hn
  have H1 := Lib.hid h1
  have HLB := Lib.hid (fun hp => lines_both es A n c w he hn h1 hp)
  clear he hn h1
  by_cases h210 : (210 : Int) < n
  · go_enter Tryz.func5, Tryz.ntmps5
    go_wp2_with fail
    refine (HA.out w HE.out).mono ?_
    rintro en w1 ⟨rfl, hb1⟩
    go_wp2_with fail
    go_ret
    exact ⟨rfl, hb1⟩
  · go_enter Tryz.func5, Tryz.ntmps5
    go_wp2_with fail
    go_loop [3] (fun i => ∃ k : Nat, k ≤ n ∧ i = .int .i64 k ∧ Hid (∀ j (h : j < es.length), j < k → es[j].1.prns.length ≤ 30 ∧ es[j].1.text.size ≤ 200)) (fun i => n - (intOf i).toNat)
    case atStart => exact ⟨0, Nat.zero_le _, rfl, Lib.hid (fun j _ hj => absurd hj (by omega))⟩
    case round =>
      obtain ⟨k, hk, rfl, hS⟩ := hrel
      by_cases hlt : k < n
      · have hk1 : k < es.length := by rw [HLN.out]; exact hlt
        obtain ⟨a1, o1, e1, ⟨B1, d1, v1, p1⟩, g1⟩ := H1.out k hk1
        have hnext : es[k].1.prns.length ≤ 30 ∧ es[k].1.text.size ≤ 200 → ∀ j (h : j < es.length), j < k + 1 → es[j].1.prns.length ≤ 30 ∧ es[j].1.text.size ≤ 200 := fun h j hj hjk => by
          by_cases e : j < k
          · exact hS.out j hj e
          · obtain rfl : j = k := by omega
            exact h
        have HNX := Lib.hid hnext
        rw [v1] at g1
        have hlt' : (k : Int) < n := by omega
        clear hnext hS
        subst e1
        have x9 : w.cell? ⟨a1, o1 + k * 14 + 9, none⟩ = some (.slice B1 es[k].1.prns.length d1) := g1 9 _ rfl
        have x13 : w.cell? ⟨a1, o1 + k * 14 + 13, none⟩ = some (.string es[k].1.text) := g1 13 _ rfl
        clear g1 v1 p1
        generalize es[k].1 = x at *
        clear hk1
        by_cases hP : (30 : Int) < x.prns.length
        · generalize x.prns.length = pn at *
          clear HNX
          go_wp2_with fail
          refine (HA.out w HE.out).mono ?_
          rintro en w1 ⟨rfl, hb1⟩
          go_wp2_with fail
          go_ret
          exact ⟨rfl, hb1⟩
        · by_cases hT : (200 : Int) < x.text.size
          · generalize x.prns.length = pn at *
            clear HNX
            go_wp2_with fail
            refine (HA.out w HE.out).mono ?_
            rintro en w1 ⟨rfl, hb1⟩
            go_wp2_with fail
            go_ret
            exact ⟨rfl, hb1⟩
          · have HN2 := Lib.hid (HNX.out ⟨by omega, by omega⟩)
            generalize x.prns.length = pn at *
            clear HNX
            go_wp2_with fail
            go_round
            case rel => exact ⟨k + 1, by omega, by go_num, HN2⟩
            case measure => simp [intOf]; omega
      · have HS := Lib.hid (show ∀ e ∈ es, e.1.prns.length ≤ 9223372036854775807 ∧ e.1.text.size ≤ 1000000 by
          intro e hm
          obtain ⟨j, hj, rfl⟩ := List.getElem_of_mem hm
          have := hS.out j hj (by have := HLN.out; omega)
          omega)
        have hlt' : ¬ (k : Int) < n := by omega
        obtain ⟨⟨y, el⟩, hL1, hL2⟩ := HLB.out HS.out
        have HL1 := Lib.hid hL1
        have HL2 := Lib.hid hL2
        clear hL1 hL2 HLB hlt hS
        go_wp2_with fail
        go_loopw [4] (fun i wr => ∃ k : Nat, k ≤ n ∧ i = .int .i64 k ∧ Below w.heap.size w wr) (fun i _ => n - (intOf i).toNat)
        case atStart => exact ⟨0, Nat.zero_le _, rfl, Below.refl _ _⟩
        case round =>
          obtain ⟨k, hk, rfl, hb⟩ := hrel
          have HB := Lib.hid hb
          clear hb
          by_cases hlt : k < n
          · have hk1 : k < es.length := by rw [HLN.out]; exact hlt
            obtain ⟨a1, o1, e1, ⟨B1, d1, v1, p1⟩, g1⟩ := H1.out k hk1
            obtain ⟨hp1, hp2⟩ := HS.out _ (List.getElem_mem hk1)
            rw [v1] at g1
            generalize es[k].1 = x at *
            subst e1
            have hA1 := fun W (hb : Below w.heap.size w W) => line_any x B1 d1 W (HE.out.below hb HE.out.1) (p1.below hb (Nat.le_refl _)) hp2 hp1
            have hA2 := fun W (hb : Below w.heap.size w W) => rline_any x B1 d1 W (p1.below hb (Nat.le_refl _)) hp2 hp1
            have hA3 := fun W (hb : Below w.heap.size w W) => check_any x B1 d1 W (p1.below hb (Nat.le_refl _)) hp2 hp1
            have hA4 := fun W (hb : Below w.heap.size w W) => rcheck_any x B1 d1 W (p1.below hb (Nat.le_refl _)) hp2 hp1
            obtain ⟨⟨y1, er1⟩, hlr⟩ : ∃ z, lineR x = z := ⟨_, rfl⟩
            rw [hlr] at hA1 hA2
            generalize Plain.checkE x = ce at *
            unfold snCells at g1 hA1 hA2 hA3 hA4
            generalize x.prns.length = pn at *
            have HA1 := Lib.hid hA1
            have HA2 := Lib.hid hA2
            have HA3 := Lib.hid hA3
            have HA4 := Lib.hid hA4
            have HG := Lib.hid g1
            have hlt' : (k : Int) < n := by omega
            clear hk1 v1 p1 hp1 hp2 hA1 hA2 hA3 hA4 hlr g1
            obtain ⟨_, x0, x1, x2, x3, x4, x5, x6, x7, x8, x9, x10, x11, x12, x13⟩ := keep14 HB.out HG.out
            go_wp2_with fail
            refine (HA1.out _ HB.out).mono ?_
            rintro en w1 ⟨rfl, hb1⟩
            have HB1 := Lib.hid (HB.out.trans (hb1.mono HB.out.size))
            clear hb1 HB x0 x1 x2 x3 x4 x5 x6 x7 x8 x9 x10 x11 x12 x13
            obtain ⟨_, x0, x1, x2, x3, x4, x5, x6, x7, x8, x9, x10, x11, x12, x13⟩ := keep14 HB1.out HG.out
            simp only
            go_wp2_with fail
            refine (HA2.out _ HB1.out).mono ?_
            rintro en w2 ⟨rfl, hb2⟩
            have HB2 := Lib.hid (HB1.out.trans (hb2.mono HB1.out.size))
            clear hb2 HB1 x0 x1 x2 x3 x4 x5 x6 x7 x8 x9 x10 x11 x12 x13
            simp only
            go_upto_region 13 with (fail)
            have HBD := Lib.hid (Below.drew HB2.out)
            go_region_held3 (fun w' => Below w.heap.size w w' ∧ w'.cell? ⟨a1, o1 + k * 14, none⟩ = some (.int .i64 x.kind) ∧ w'.cell? ⟨a1, o1 + k * 14 + 1, none⟩ = some (.int .i64 x.time) ∧ w'.cell? ⟨a1, o1 + k * 14 + 2, none⟩ = some (.bool x.ok) ∧ w'.cell? ⟨a1, o1 + k * 14 + 3, none⟩ = some (.int .i64 x.p0) ∧ w'.cell? ⟨a1, o1 + k * 14 + 4, none⟩ = some (.int .i64 x.p1) ∧ w'.cell? ⟨a1, o1 + k * 14 + 5, none⟩ = some (.int .i64 x.p2) ∧ w'.cell? ⟨a1, o1 + k * 14 + 6, none⟩ = some (.int .i64 x.l0) ∧ w'.cell? ⟨a1, o1 + k * 14 + 7, none⟩ = some (.int .i64 x.l1) ∧ w'.cell? ⟨a1, o1 + k * 14 + 8, none⟩ = some (.int .i64 x.l2) ∧ w'.cell? ⟨a1, o1 + k * 14 + 9, none⟩ = some (.slice B1 pn d1) ∧ w'.cell? ⟨a1, o1 + k * 14 + 10, none⟩ = some (.int .i64 x.prn) ∧ w'.cell? ⟨a1, o1 + k * 14 + 11, none⟩ = some (.int .i64 x.lag) ∧ w'.cell? ⟨a1, o1 + k * 14 + 12, none⟩ = some (.int .i64 x.power) ∧ w'.cell? ⟨a1, o1 + k * 14 + 13, none⟩ = some (.string x.text)) (first | exact keep14 HBD.out HG.out | exact keep14 HB5.out HG.out)
              (first
                | (go_at_call 21; refine (HA3.out _ (heldB (by assumption))).mono ?_; rintro en w5 ⟨rfl, hb5⟩; have HB5 := Lib.hid ((heldB (by assumption)).trans (hb5.mono (heldB (by assumption)).size)))
                | (go_at_call 22; refine (HA4.out _ (heldB (by assumption))).mono ?_; rintro en w5 ⟨rfl, hb5⟩; have HB5 := Lib.hid ((heldB (by assumption)).trans (hb5.mono (heldB (by assumption)).size))))
            go_wp2_with fail
            go_roundw
            case rel => exact ⟨k + 1, by omega, by go_num, HB5.out⟩
            case measure => simp [intOf]; omega
          · have hlt' : ¬ (k : Int) < n := by omega
            go_wp2_with fail
            refine (HL1.out _ HB.out).mono ?_
            rintro en w1 ⟨rfl, hb1⟩
            have HB1 := Lib.hid (HB.out.trans (hb1.mono HB.out.size))
            clear hb1 HB
            simp only
            go_wp2_with fail
            refine (HL2.out _ HB1.out).mono ?_
            rintro en w2 ⟨rfl, hb2⟩
            have HB2 := Lib.hid (HB1.out.trans (hb2.mono HB1.out.size))
            clear hb2 HB1
            simp only
            go_wp2_with fail
            refine (HA.out _ (HE.out.below HB2.out HE.out.1)).mono ?_
            rintro en w3 ⟨rfl, hb3⟩
            have HB3 := Lib.hid (HB2.out.trans (hb3.mono HB2.out.size))
            go_wp2_with fail
            go_ret
            exact ⟨rfl, HB3.out⟩
end Go.Proofs.YteeekdffbcbamaaGreatDoor
