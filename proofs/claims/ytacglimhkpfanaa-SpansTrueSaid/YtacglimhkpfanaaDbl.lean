/-
  WALKS: double numbers among channels (the reference).
-/
import Derived.Test.YtacglimhkpfanaaAwake
import Derived.Test.YtacglimhkpfanaaPlainC
import Derived.Deep.DeepCutAuto
namespace Go.Proofs.Ytacglimhkpfanaa
open Go.RowKit

theorem block_of_cell {w : World} {a : Addr} {v : Value} (h : w.cell? a = some v) : a.block < w.heap.size := by
  unfold World.cell? at h
  rcases Nat.lt_or_ge a.block w.heap.size with hlt | hge
  · exact hlt
  · rw [Array.getElem?_eq_none hge] at h
    cases h
theorem add_block (a : Addr) (i : Nat) : (a.add i).block = a.block := by unfold Addr.add; split <;> rfl
/-- A slice of structs of three ints reads as a list. -/
def Reads3 (w : World) (B : Nat) (A : Option Addr) (cs : List Plain.Tri) : Prop :=
  ∀ j (h : j < cs.length), ∃ ad, A = some ad ∧ ad.block < B ∧ w.cell? (ad.add (j * 3)) = some (.int .i64 cs[j].1) ∧ w.cell? ⟨(ad.add (j * 3)).block, (ad.add (j * 3)).off + 1, none⟩ = some (.int .i64 cs[j].2.1) ∧ w.cell? ⟨(ad.add (j * 3)).block, (ad.add (j * 3)).off + 2, none⟩ = some (.int .i64 cs[j].2.2)
theorem Reads3.below {w w' : World} {B B' : Nat} {A : Option Addr} {cs : List Plain.Tri} (h : Reads3 w B A cs) (hb : Below B' w w') (hB : B ≤ B') : Reads3 w' B A cs := fun j hj => by
  obtain ⟨ad, e, hlt, h0, h1, h2⟩ := h j hj
  have hh : w'.cell? (ad.add (j * 3)) = w.cell? (ad.add (j * 3)) := hb.cell (by rw [add_block]; omega)
  have hh2 : ∀ i, w'.cell? ⟨(ad.add (j * 3)).block, i, none⟩ = w.cell? ⟨(ad.add (j * 3)).block, i, none⟩ := fun i => hb.cell (p := ⟨_, i, none⟩) (by show (ad.add (j * 3)).block < B'; rw [add_block]; omega)
  exact ⟨ad, e, hlt, by rw [hh]; exact h0, by rw [hh2]; exact h1, by rw [hh2]; exact h2⟩
theorem Reads3.more {w : World} {B B' : Nat} {A : Option Addr} {cs : List Plain.Tri} (h : Reads3 w B A cs) (hB : B ≤ B') : Reads3 w B' A cs := fun j hj => by
  obtain ⟨ad, e, hlt, h0, h1, h2⟩ := h j hj
  exact ⟨ad, e, by omega, h0, h1, h2⟩
theorem add_add (a : Addr) (i j : Nat) : (a.add i).add j = a.add (i + j) := by
  unfold Addr.add
  by_cases hi : i = 0
  · by_cases hj : j = 0 <;> simp [hi, hj]
  · by_cases hj : j = 0
    · simp [hi, hj]
    · simp [hi, hj, Nat.add_assoc]

theorem at1 (ad : Addr) (i n : Nat) : ad.add (i + (n + 1)) = ⟨(ad.add i).block, (ad.add i).off + (n + 1), none⟩ := by
  rw [← add_add]
  unfold Addr.add
  rw [if_neg (by omega)]
theorem Reads3.mk {w : World} {B : Nat} {ad : Addr} {cs : List Plain.Tri} (hb : ad.block < B) (h : ∀ j (_ : j < cs.length), w.cell? (ad.add (j * 3)) = some (.int .i64 cs[j].1) ∧ w.cell? (ad.add (j * 3 + 1)) = some (.int .i64 cs[j].2.1) ∧ w.cell? (ad.add (j * 3 + 2)) = some (.int .i64 cs[j].2.2)) :
    Reads3 w B (some ad) cs := fun j hj => by
  obtain ⟨h0, h1, h2⟩ := h j hj
  rw [at1 ad (j * 3) 0] at h1
  rw [at1 ad (j * 3) 1] at h2
  exact ⟨ad, rfl, hb, h0, h1, h2⟩
namespace Plain
theorem dup_at {cs : List Tri} {i k : Nat} (hk : k < i) (hi : i < cs.length) (h : cs[i].1 = cs[k].1) : dup cs = true := by
  cases hd : dup cs
  · rw [dup_false] at hd
    have := List.pairwise_iff_getElem.1 hd k i (by simp; omega) (by simp; omega) hk
    simp at this
    exact absurd h.symm this
  · rfl
theorem dup_none {cs : List Tri} (h : ∀ i k (hi : i < cs.length) (hk : k < i), cs[i].1 ≠ cs[k].1) : dup cs = false := by
  rw [dup_false]
  refine List.pairwise_iff_getElem.2 fun k i hk hi hlt => ?_
  simp at hk hi ⊢
  exact fun e => h i k hi hlt e.symm
end Plain

set_option maxHeartbeats 1000000 in
theorem double36_any (A : Option Addr) (k c : Nat) (cs : List Plain.Tri) (w : World) (hl : cs.length = k) (hk : k ≤ 1000000) (hr : Reads3 w w.heap.size A cs) (r : Bool) (hR : Plain.dup cs = r) :
    Calls Try.prog 36 #[.slice A k c] w fun e w' => e = .returned (.bool r) ∧ Below w.heap.size w w' := by
  have HD := Lib.hid (fun i k hk hi h => (hR.symm.trans (Plain.dup_at (cs := cs) (i := i) (k := k) hk hi h)))
  have HN := Lib.hid (fun h => (hR.symm.trans (Plain.dup_none (cs := cs) h)))
  clear hR
  have HL := Lib.hid hl; clear hl
  have HR := Lib.hid hr; clear hr
  go_enter Try.func36, Try.ntmps36
  go_wp2_with fail
  go_loopw [3] (fun i wr => ∃ j : Nat, j ≤ k ∧ i = .int .i64 j ∧ Hid (∀ a b (_ : a < cs.length) (_ : b < a), a < j → cs[a].1 ≠ cs[b].1) ∧ Below w.heap.size w wr) (fun i _ => k - (intOf i).toNat)
  case atStart => exact ⟨0, Nat.zero_le _, rfl, Lib.hid (fun a b h1 h2 h3 => by omega), Below.refl _ _⟩
  case round =>
    obtain ⟨j, hj, rfl, hI, hB⟩ := hrel
    obtain ⟨wo, rfl⟩ : ∃ wo : World, wo = wr := ⟨_, rfl⟩
    by_cases hlt : j < k
    · have hjl : j < cs.length := by rw [HL.out]; exact hlt
      go_wp2_with fail
      go_loopw [4] (fun i wr => ∃ t : Nat, t ≤ j ∧ i = .int .i64 t ∧ Hid (∀ b (_ : b < cs.length), b < t → cs[j].1 ≠ cs[b].1) ∧ Below w.heap.size w wr) (fun i _ => j - (intOf i).toNat)
      case atStart => exact ⟨0, Nat.zero_le _, rfl, Lib.hid (fun b h1 h2 => by omega), hB⟩
      case round =>
        obtain ⟨t, ht, rfl, hT, hB2⟩ := hrel
        by_cases hlt2 : t < j
        · have htl : t < cs.length := by omega
          obtain ⟨ad, hA, hab, h0, _, _⟩ := (HR.out.below hB2 (Nat.le_refl _)) j hjl
          obtain ⟨_, hA', _, g0, _, _⟩ := (HR.out.below hB2 (Nat.le_refl _)) t htl
          subst hA
          cases hA'
          have HB2 := Lib.hid hB2; clear hB2
          by_cases he : cs[j].1 = cs[t].1
          · have hr1 := HD.out j t hlt2 hjl he
            rw [← he] at g0
            generalize cs[j].1 = x at *
            subst hr1
            have q : (x == x) = true := beq_iff_eq.2 rfl
            clear he
            go_wp2_with fail
            go_quiet (fail)
            go_wp2_with fail
            go_ret
            exact ⟨rfl, below_drewN HB2.out _⟩
          · have q : (cs[j].1 == cs[t].1) = false := beq_eq_false_iff_ne.2 he
            have HE := Lib.hid he; clear he
            obtain ⟨x, hx⟩ : ∃ x, cs[j].1 = x := ⟨_, rfl⟩
            obtain ⟨y, hy⟩ : ∃ y, cs[t].1 = y := ⟨_, rfl⟩
            rw [hx] at h0 q
            rw [hy] at g0 q
            clear hx hy
            go_wp2_with fail
            go_quiet (fail)
            go_wp2_with fail
            go_roundw
            case rel => exact ⟨t + 1, by omega, by go_num, Lib.hid (fun b h1 h2 => by
              by_cases hb : b < t
              · exact hT.out b h1 hb
              · obtain rfl : b = t := by omega
                exact HE.out), below_drewN HB2.out _⟩
            case measure => simp [intOf]; omega
        · obtain rfl : t = j := by omega
          have HB2 := Lib.hid hB2; clear hB2
          go_wp2_with fail
          go_roundw
          case rel => exact ⟨t + 1, by omega, by go_num, Lib.hid (fun a b h1 h2 h3 => by
              by_cases ha : a < t
              · exact hI.out a b h1 h2 ha
              · obtain rfl : a = t := by omega
                exact hT.out b (by omega) h2), HB2.out⟩
          case measure => simp [intOf]; omega
    · have hr0 := HN.out (fun a b h1 h2 => hI.out a b h1 h2 (by have := HL.out; omega))
      subst hr0
      go_wp2_with fail
      go_ret
      exact ⟨rfl, hB⟩
end Go.Proofs.Ytacglimhkpfanaa
