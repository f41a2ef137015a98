/-
  PLAIN: what the law ReportBack asks of a line.
-/
import Derived.Test.YteeekdffbcbamaaDoorPlainS
import Derived.Test.YteeekdffbcbamaaDoorPlainT
namespace Go.Proofs.YteeekdffbcbamaaDoor
namespace Plain

theorem body_four (x : Sn) : 4 ≤ (bodyL x).length := by
  have h : ∀ f g : List UInt8, ∀ r, f.length = 3 → 4 ≤ (Lib.join (f :: g :: r) [44]).length := by
    intro f g r hf
    rw [join_cc, List.length_append, List.length_cons]
    omega
  unfold bodyL fieldsL
  split
  · exact h _ _ _ rfl
  · split
    · exact h _ _ _ rfl
    · exact h _ _ _ rfl
theorem line_get {x : Sn} {i : Nat} {c : UInt8} (h : (lineB x).data.toList[i]? = some c) (hi : i < (lineB x).size) : (lineB x)[i] = c := by
  have h2 : i < (lineB x).data.toList.length := by rw [len_size]; exact hi
  rw [List.getElem?_eq_getElem h2] at h
  have h3 : (lineB x).data.toList[i] = c := by simpa using h
  rw [← h3]
  rfl
theorem line_parts (x : Sn) (n : Nat) (hn : (lineB x).size = n + 4) : n = (bodyL x).length ∧
    (lineB x).data.toList[0]? = some 36 ∧ (lineB x).data.toList[n + 1]? = some 42 ∧ (lineB x).data.toList[n + 2]? = some (hexC (sumN (bodyL x) / 16)) ∧ (lineB x).data.toList[n + 3]? = some (hexC (sumN (bodyL x) % 16)) := by
  have hz := line_size x
  obtain rfl : n = (bodyL x).length := by omega
  refine ⟨rfl, ?_, ?_, ?_, ?_⟩
  · rw [line_list]; rfl
  · rw [line_list, List.getElem?_cons_succ, List.getElem?_append_right (Nat.le_refl _), Nat.sub_self]; rfl
  · rw [line_list, List.getElem?_cons_succ, List.getElem?_append_right (by omega), Nat.add_sub_cancel_left]; rfl
  · rw [line_list, List.getElem?_cons_succ, List.getElem?_append_right (by omega), Nat.add_sub_cancel_left]; rfl
theorem line_mid (x : Sn) : ((lineB x).extract 1 (1 + (bodyL x).length)).data.toList = bodyL x := by
  rw [extract_list, line_drop]
/-- A line with one byte changed has a fault. -/
theorem line_changed {x : Sn} (h : checkE x = 0) {s' : ByteArray} (k : Nat) (hk : 1 ≤ k) (hke : k < 1 + (bodyL x).length) (c d : UInt8) (hd : d ≠ 0) (hc : (lineB x).data.toList[k]? = some c) (hs : s'.data.toList = (lineB x).data.toList.set k (c ^^^ d)) :
    (parse s').2.1 ≠ 0 := changed_er (line_ends h) k hk hke c d hd hc hs
theorem hexC_get : ∀ v : Fin 16, hexC v.val = hexL[v.val] := by decide
end Plain
end Go.Proofs.YteeekdffbcbamaaDoor
