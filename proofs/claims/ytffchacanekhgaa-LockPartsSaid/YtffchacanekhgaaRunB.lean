/-
  WALKS: fold.
-/
import Derived.Test.YtffchacanekhgaaRunA
import Derived.Test.YtffchacanekhgaaPlainC
namespace Go.Proofs.Ytffchacanekhgaa
open Go.RowKit

/-- A slice that reads as a list of bools, below block B. -/
def ReadsB (w : World) (B : Nat) (A : Option Addr) (cs : List Bool) : Prop :=
  ∀ j (hj : j < cs.length), ∃ ad, A = some ad ∧ ad.block < B ∧ w.cell? (ad.add j) = some (.bool cs[j])
theorem add_block (a : Addr) (n : Nat) : (a.add n).block = a.block := by unfold Addr.add; split <;> rfl
theorem ReadsB.below {w w' : World} {B : Nat} {A : Option Addr} {cs : List Bool} (h : ReadsB w B A cs) (hb : Below B w w') : ReadsB w' B A cs := fun j hj => by
  obtain ⟨ad, e, hlt, hc⟩ := h j hj
  exact ⟨ad, e, hlt, (hb.cell (by rw [add_block]; exact hlt)).trans hc⟩
theorem ReadsB.more {w : World} {B B' : Nat} {A : Option Addr} {cs : List Bool} (h : ReadsB w B A cs) (hB : B ≤ B') : ReadsB w B' A cs := fun j hj => by
  obtain ⟨ad, e, hlt, hc⟩ := h j hj
  exact ⟨ad, e, by omega, hc⟩

set_option maxHeartbeats 1000000 in
theorem fold_any (g bs bp bm base : Nat) (n m : Int) (s : Plain.St) (A : Option Addr) (cap : Nat) (cs : List Bool) (w : World) (h : Det w g n m s.1 s.2.1 s.2.2) (hc : Ctx w g bs bp bm) (hv : Plain.chk n m s.1 s.2.1 s.2.2 = 0)
    (hr : ReadsB w base A cs) (hbase : base ≤ w.heap.size) (hbg : base ≤ g) (hk : cs.length ≤ 10000) :
    Calls Try.prog 25 #[.slice A cs.length cap, .slice none 0 0, .func (.func 26) #[] #[.pointer (some ⟨bs, 0, none⟩), .pointer (some ⟨bp, 0, none⟩)]] w fun e w' => ∃ v', e = .returned v' ∧ w'.ownsRow base 4 1 v' cs.length ((Plain.runL n m s cs).map Value.bool) ∧
      Det w' g n m (Plain.runS n m s cs).1 (Plain.runS n m s cs).2.1 (Plain.runS n m s cs).2.2 ∧ Ctx w' g bs bp bm ∧ Below base w w' := by
  obtain ⟨k, hkl⟩ : ∃ k, cs.length = k := ⟨_, rfl⟩
  rw [hkl]
  have hk2 : k ≤ 10000 := by omega
  have HK := Lib.hid hkl; clear hkl
  have HR := Lib.hid hr; clear hr
  have HV := Lib.hid hv; clear hv
  have HD := Lib.hid h; clear h
  have HC := Lib.hid hc; clear hc
  go_enter Try.func25, Try.ntmps25
  go_wp2
  go_loopw [1, 11] (fun v i wr => ∃ j : Nat, j ≤ k ∧ i = .int .i64 j ∧ wr.ownsRow base 4 1 v j ((Plain.runL n m s (cs.take j)).map Value.bool) ∧
      Det wr g n m (Plain.runS n m s (cs.take j)).1 (Plain.runS n m s (cs.take j)).2.1 (Plain.runS n m s (cs.take j)).2.2 ∧ Ctx wr g bs bp bm ∧ Below base w wr) (fun _ i _ => k - (intOf i).toNat)
  case atStart => exact ⟨0, Nat.zero_le _, rfl, World.ownsRow_nil _ _ _ _, HD.out, HC.out, Below.refl _ _⟩
  case round =>
    obtain ⟨j, hj, rfl, hown, hD, hC, hB⟩ := hrel
    by_cases hlt : j < k
    · have hjl : j < cs.length := by rw [HK.out]; exact hlt
      obtain ⟨ad, hA, hab, hcell⟩ := (HR.out.below hB) j hjl
      subst hA
      have hv1 := Plain.chk_run n m s (cs.take j) HV.out
      have eS := Plain.runS_take n m s cs j hjl
      have eL := Plain.runL_take n m s cs j hjl
      generalize cs[j] = c at hcell eS eL
      generalize Plain.runS n m s (cs.take j) = t at hD hv1 eS eL
      have hcl := Lib.hid (closure_any c g bs bp bm base n m t.1 t.2.1 t.2.2 u1 j _ wr hD hC hv1 hown (by have := hB.size; omega) hbg (by omega))
      clear hv1 hC hD
      have ES := Lib.hid eS; clear eS
      have EL := Lib.hid eL; clear eL
      have HO := Lib.hid hown; clear hown
      go_wp2_with (go_at_call 26; refine hcl.out.mono ?_; rintro e w2 ⟨v', rfl, hown2, hD2, hC2, hB2⟩)
      go_roundw
      case rel =>
        refine ⟨j + 1, by omega, by go_num, ?_, ?_, hC2, hB.trans hB2⟩
        · rw [EL.out, List.map_append]; exact hown2
        · rw [ES.out]; exact hD2
      case measure => simp [intOf]; omega
    · obtain rfl : j = k := by omega
      rw [List.take_of_length_le (by rw [HK.out]; exact Nat.le_refl _)] at hown hD
      have HO := Lib.hid hown; clear hown
      have HD2 := Lib.hid hD; clear hD
      have HC2 := Lib.hid hC; clear hC
      go_wp2_with fail
      go_ret
      exact ⟨_, rfl, HO.out, HD2.out, HC2.out, hB⟩
end Go.Proofs.Ytffchacanekhgaa
