/-
  PLAIN: a line of which one byte is changed ahead of the star is none.
-/
import Derived.Test.YteeekdffbcbamaaDoorG4
namespace Go.Proofs.YteeekdffbcbamaaDoor.Plain

theorem upto_set : ∀ (l : List UInt8) (k : Nat) (y c : UInt8), k < upto l c → upto (l.set k y) c = if y = c then k else upto l c
  | [], k, y, c, h => by unfold upto at h; simp at h
  | x :: xs, 0, y, c, h => by
    rw [upto_cons] at h
    have hx : x ≠ c := fun e => by rw [if_pos e] at h; omega
    rw [List.set_cons_zero, upto_cons, upto_cons, if_neg hx]
  | x :: xs, k + 1, y, c, h => by
    rw [upto_cons] at h
    have hx : x ≠ c := fun e => by rw [if_pos e] at h; omega
    rw [if_neg hx] at h
    rw [List.set_cons_succ, upto_cons, upto_cons, if_neg hx, if_neg hx, upto_set xs k y c (by omega)]
    split <;> rfl
theorem fold_xor : ∀ (l : List UInt8) (n a : Nat), l.foldl (fun n c => n ^^^ c.toNat) (n ^^^ a) = l.foldl (fun n c => n ^^^ c.toNat) n ^^^ a
  | [], _, _ => rfl
  | c :: l, n, a => by
    simp only [List.foldl_cons]
    rw [show n ^^^ a ^^^ c.toNat = n ^^^ c.toNat ^^^ a by rw [Nat.xor_assoc, Nat.xor_assoc, Nat.xor_comm a]]
    exact fold_xor l _ a
theorem sumN_cons (c : UInt8) (l : List UInt8) : sumN (c :: l) = sumN l ^^^ c.toNat := by
  unfold sumN
  rw [List.foldl_cons, ← fold_xor]
theorem sumN_set : ∀ (l : List UInt8) (k : Nat) (c d : UInt8), l[k]? = some c → sumN (l.set k (c ^^^ d)) = sumN l ^^^ d.toNat
  | [], k, c, d, h => by simp at h
  | x :: xs, 0, c, d, h => by
    obtain rfl : x = c := by simpa using h
    rw [List.set_cons_zero, sumN_cons, sumN_cons, UInt8.toNat_xor, ← Nat.xor_assoc]
  | x :: xs, k + 1, c, d, h => by
    have h' : xs[k]? = some c := by simpa using h
    rw [List.set_cons_succ, sumN_cons, sumN_cons, sumN_set xs k c d h', Nat.xor_assoc, Nat.xor_assoc, Nat.xor_comm d.toNat]
theorem ends_more {s : ByteArray} {e : Nat} {ea : Int} (h : endsP s = (e, 0, ea)) : s.size ≤ 500 ∧ s.data.toList.head? = some 36 ∧ e = starN s ∧ e + 3 = s.size ∧ ((sumN (s.extract 1 e).data.toList : Nat) : Int) = 16 * hexAt s (e + 1) + hexAt s (e + 2) := by
  obtain ⟨h1, h2, h3, h4⟩ := ends_ok h
  unfold endsP at h
  rw [if_neg (by omega)] at h
  by_cases c2 : s.data.toList.head? ≠ some 36
  · rw [if_pos c2] at h; simp at h
  · rw [if_neg c2] at h
    by_cases c3 : starN s = s.size
    · rw [if_pos c3] at h; simp at h
    · rw [if_neg c3] at h
      by_cases c4 : hexAt s (starN s + 1) < 0
      · rw [if_pos c4] at h; simp at h
      · rw [if_neg c4] at h
        by_cases c5 : hexAt s (starN s + 2) < 0
        · rw [if_pos c5] at h; simp at h
        · rw [if_neg c5] at h
          by_cases c6 : starN s + 3 < s.size
          · rw [if_pos c6] at h; simp at h
          · rw [if_neg c6] at h
            split at h
            · simp at h
            · next c7 =>
              simp only [Prod.mk.injEq] at h
              obtain ⟨rfl, -, -⟩ := h
              exact ⟨h1, by simpa using c2, rfl, h3, by simpa using c7⟩
theorem hexAt_list (s : ByteArray) (i : Nat) : hexAt s i = (s.data.toList[i]?.map hexZ).getD (-1) := by
  unfold hexAt
  by_cases h : i < s.size
  · rw [dif_pos h, List.getElem?_eq_getElem (by rw [len_size]; exact h)]
    rfl
  · rw [dif_neg h, List.getElem?_eq_none (by rw [len_size]; omega)]
    rfl
/-- A byte that is changed between $ and *. -/
theorem changed_ends {s s' : ByteArray} {e : Nat} {ea : Int} (h : endsP s = (e, 0, ea)) (k : Nat) (hk : 1 ≤ k) (hke : k < e) (c d : UInt8) (hd : d ≠ 0) (hc : s.data.toList[k]? = some c) (hs : s'.data.toList = s.data.toList.set k (c ^^^ d)) :
    (endsP s').2.1 ≠ 0 := by
  intro h0
  obtain ⟨-, -, he, he3, hsum⟩ := ends_more h
  have h' : endsP s' = ((endsP s').1, 0, (endsP s').2.2) := by rw [← h0]
  obtain ⟨-, -, he', he3', hsum'⟩ := ends_more h'
  generalize (endsP s').1 = e' at he' he3' hsum'
  have hsz : s'.size = s.size := by rw [← len_size s', ← len_size s, hs, List.length_set]
  obtain rfl : e' = e := by omega
  have hst : starN s' = if c ^^^ d = 42 then k else starN s := by
    unfold starN
    rw [hs]
    exact upto_set _ _ _ _ (by show k < starN s; omega)
  by_cases h42 : c ^^^ d = 42
  · rw [if_pos h42] at hst; omega
  · have hx : ∀ i, k ≠ i → hexAt s' i = hexAt s i := fun i hi => by rw [hexAt_list, hexAt_list, hs, List.getElem?_set_ne hi]
    rw [hx _ (by omega), hx _ (by omega), ← hsum] at hsum'
    have hl : (s'.extract 1 e').data.toList = ((s.extract 1 e').data.toList).set (k - 1) (c ^^^ d) := by
      rw [extract_list, extract_list, hs, List.drop_set, if_neg (by omega), List.take_set]
    have hg : (s.extract 1 e').data.toList[k - 1]? = some c := by
      rw [extract_list, List.getElem?_take_of_lt (by omega), List.getElem?_drop, show 1 + (k - 1) = k by omega]
      exact hc
    rw [hl, sumN_set _ _ _ _ hg] at hsum'
    have hz : sumN (s.extract 1 e').data.toList ^^^ d.toNat = sumN (s.extract 1 e').data.toList := by omega
    have hz0 : d.toNat = 0 := by
      have := congrArg (sumN (s.extract 1 e').data.toList ^^^ ·) hz
      simpa [← Nat.xor_assoc] using this
    exact hd (UInt8.toNat_inj.1 hz0)
theorem parse_er {s : ByteArray} (h : (endsP s).2.1 ≠ 0) : (parse s).2.1 ≠ 0 := by
  unfold parse
  rw [if_pos h]
  exact h
theorem changed_er {s s' : ByteArray} {e : Nat} {ea : Int} (h : endsP s = (e, 0, ea)) (k : Nat) (hk : 1 ≤ k) (hke : k < e) (c d : UInt8) (hd : d ≠ 0) (hc : s.data.toList[k]? = some c) (hs : s'.data.toList = s.data.toList.set k (c ^^^ d)) :
    (parse s').2.1 ≠ 0 := parse_er (changed_ends h k hk hke c d hd hc hs)
end Go.Proofs.YteeekdffbcbamaaDoor.Plain
