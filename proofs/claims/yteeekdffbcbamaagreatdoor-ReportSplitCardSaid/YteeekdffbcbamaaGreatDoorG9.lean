/-
  WALKS, joined: the sentence of any line (the reference).
-/
import Derived.Test.YteeekdffbcbamaaGreatDoorRPk0
import Derived.Test.YteeekdffbcbamaaGreatDoorRPk1
import Derived.Test.YteeekdffbcbamaaGreatDoorRPk2
import Derived.Test.YteeekdffbcbamaaGreatDoorRPk3
namespace Go.Proofs.YteeekdffbcbamaaGreatDoor
open Go.RowKit

theorem Plain.parse_fault {s : ByteArray} {er ea : Int} (h : Plain.endsP s = (0, er, ea)) (h0 : er ≠ 0) : Plain.parse s = (Plain.zeroSn, er, ea) := by
  unfold Plain.parse
  rw [h]
  exact if_pos h0
theorem Plain.parse_fields {s : ByteArray} {e : Nat} (h : Plain.endsP s = (e, 0, 0)) : Plain.parse s = Plain.fieldsP s e (Plain.kindW (Plain.wordF s e).data.toList) := by
  unfold Plain.parse
  rw [h]
  exact if_neg (by simp)
theorem rparse_any (s : ByteArray) (w : World) : Calls Tryz.prog 15 #[.string s] w (ParsePost w (Plain.parse s)) := by
  by_cases c0 : 500 < s.size
  · rw [Plain.parse_fault (by unfold Plain.endsP; rw [if_pos c0]) (by decide)]
    exact rp_long s w c0
  have h : s.size ≤ 500 := by omega
  by_cases hd : s.data.toList.head? = some 36
  · have hd' : ¬ s.data.toList.head? ≠ some 36 := fun g => g hd
    obtain ⟨e, he⟩ : ∃ e, Plain.starN s = e := ⟨_, rfl⟩
    have hle := Plain.starN_le s
    by_cases c2 : e = s.size
    · rw [Plain.parse_fault (er := 11) (ea := e) (by unfold Plain.endsP; rw [if_neg c0, if_neg hd', he, if_pos c2, c2]) (by decide)]
      exact rp_nostar s w h hd e he c2
    by_cases hx : Plain.hexAt s (e + 1) < 0
    · rw [Plain.parse_fault (er := 11) (ea := (e : Int) + 1) (by unfold Plain.endsP; rw [if_neg c0, if_neg hd', he, if_neg c2, if_pos hx]) (by decide)]
      exact rp_d1 s w h hd e he (by omega) hx
    by_cases hy : Plain.hexAt s (e + 2) < 0
    · rw [Plain.parse_fault (er := 11) (ea := (e : Int) + 2) (by unfold Plain.endsP; rw [if_neg c0, if_neg hd', he, if_neg c2, if_neg hx, if_pos hy]) (by decide)]
      exact rp_d2 s w h hd e he (by omega) hy
    by_cases c1 : e + 3 < s.size
    · rw [Plain.parse_fault (er := 11) (ea := (e : Int) + 3) (by unfold Plain.endsP; rw [if_neg c0, if_neg hd', he, if_neg c2, if_neg hx, if_neg hy, if_pos c1]) (by decide)]
      exact rp_more s w h hd e he (by omega) (by omega) c1
    by_cases hm : (Plain.sumN (s.extract 1 e).data.toList : Int) = 16 * Plain.hexAt s (e + 1) + Plain.hexAt s (e + 2)
    · rw [Plain.parse_fields (e := e) (by unfold Plain.endsP; rw [if_neg c0, if_neg hd', he, if_neg c2, if_neg hx, if_neg hy, if_neg c1, if_neg (fun g => g hm)])]
      have hx' : 0 ≤ Plain.hexAt s (e + 1) := by omega
      have hy' : 0 ≤ Plain.hexAt s (e + 2) := by omega
      have hc : s.size ≤ e + 3 := by omega
      unfold Plain.kindW
      by_cases h1 : (Plain.wordF s e).data.toList = [70, 73, 88]
      · rw [if_pos h1]
        exact rp_k1 s w h hd e he hx' hy' hc hm h1
      · rw [if_neg h1]
        by_cases h2 : (Plain.wordF s e).data.toList = [83, 65, 84]
        · rw [if_pos h2]
          exact rp_k2 s w h hd e he hx' hy' hc hm h2
        · rw [if_neg h2]
          by_cases h3 : (Plain.wordF s e).data.toList = [84, 88, 84]
          · rw [if_pos h3]
            exact rp_k3 s w h hd e he hx' hy' hc hm h3
          · rw [if_neg h3]
            exact rp_k0 s w h hd e he hx' hy' hc hm h1 h2 h3
    · rw [Plain.parse_fault (er := 14) (ea := (e : Int) + 1) (by unfold Plain.endsP; rw [if_neg c0, if_neg hd', he, if_neg c2, if_neg hx, if_neg hy, if_neg c1, if_pos hm]) (by decide)]
      exact rp_bad s w h hd e he (by omega) (by omega) (by omega) hm
  · rw [Plain.parse_fault (by unfold Plain.endsP; rw [if_neg c0, if_pos hd]) (by decide)]
    by_cases hz : s.size = 0
    · exact rp_empty s w hz
    · exact rp_no s w h (by omega) hd
end Go.Proofs.YteeekdffbcbamaaGreatDoor
