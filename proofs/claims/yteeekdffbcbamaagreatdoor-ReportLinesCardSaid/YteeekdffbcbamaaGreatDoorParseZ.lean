/-
  WALKS, joined: the sentence of any line (package report).
-/
import Derived.Test.YteeekdffbcbamaaGreatDoorParseK0
import Derived.Test.YteeekdffbcbamaaGreatDoorParseK1
import Derived.Test.YteeekdffbcbamaaGreatDoorParseK2
import Derived.Test.YteeekdffbcbamaaGreatDoorParseK3
namespace Go.Proofs.YteeekdffbcbamaaGreatDoor
open Go.RowKit

theorem parse_any (s : ByteArray) (w : World) (hs : s.size ≤ 1000000) (te : TypeId) (pe : Value) (hV : w.cell? ⟨2, 0, none⟩ = some (.iface te pe)) (hbE : 2 < w.heap.size) :
    Calls Tryz.prog 14 #[.string s] w (ParsePost w (Plain.parse s)) := by
  obtain ⟨E, er, ea, hE⟩ : ∃ E er ea, Plain.endsP s = (E, er, ea) := ⟨_, _, _, rfl⟩
  unfold Plain.parse
  rw [hE]
  by_cases h0 : er ≠ 0
  · rw [if_pos h0]
    exact parse_bad s w hs E er ea hE h0
  · rw [if_neg h0]
    obtain rfl : er = 0 := by simpa using h0
    obtain ⟨-, -, -, rfl⟩ := Plain.ends_ok hE
    unfold Plain.kindW
    by_cases h1 : (Plain.wordF s E).data.toList = [70, 73, 88]
    · rw [if_pos h1]
      exact parse_1 s w E hE h1 te pe hV hbE
    · rw [if_neg h1]
      by_cases h2 : (Plain.wordF s E).data.toList = [83, 65, 84]
      · rw [if_pos h2]
        exact parse_2 s w E hE h2 te pe hV hbE
      · rw [if_neg h2]
        by_cases h3 : (Plain.wordF s E).data.toList = [84, 88, 84]
        · rw [if_pos h3]
          exact parse_3 s w E hE h3 te pe hV hbE
        · rw [if_neg h3]
          exact parse_0 s w E hE h1 h2 h3
end Go.Proofs.YteeekdffbcbamaaGreatDoor
