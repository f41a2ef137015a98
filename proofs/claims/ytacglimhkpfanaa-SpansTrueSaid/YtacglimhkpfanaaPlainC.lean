/-
  PLAIN LAWS of lists of channels: their observations by ascending numbers, double numbers, the least clock. No program in sight.
-/
import Derived.Test.YtacglimhkpfanaaPlain
import Derived.Test.YtacglimhkpfanaaPlainB
namespace Go.Proofs.Ytacglimhkpfanaa.Plain
/-- A channel: number, sample, millisecond. An observation: number, range, error. -/
abbrev Tri := Int × Int × Int

def cE (l rx : Int) (c : Tri) : Int := lenE l rx c.1 c.2.1 c.2.2
def cV (l rx : Int) (c : Tri) : Int := lenV l rx c.1 c.2.1 c.2.2
def cB (c : Tri) : Bool := chB c.1 c.2.1 c.2.2
def spn (l rx b : Int) (c : Tri) : Tri := (c.1, cV l rx c, b)
/-- The first error. -/
def errs (l rx : Int) : List Tri → Int
  | [] => 0
  | c :: cs => if cE l rx c = 0 then errs l rx cs else cE l rx c
def dup : List Tri → Bool
  | [] => false
  | c :: cs => cs.any (fun d => decide (d.1 = c.1)) || dup cs
/-- An observation put in its place. -/
def ins (x : Tri) : List Tri → List Tri
  | [] => [x]
  | y :: ys => if y.1 < x.1 then y :: ins x ys else x :: y :: ys
def srt (L : List Tri) : List Tri := L.foldl (fun o x => ins x o) []
def allE (l over rx : Int) (cs : List Tri) : Int :=
  if bndE l over = 0 then (if cs.length ≤ 16 then (if errs l rx cs = 0 then (if dup cs then 8 else 0) else errs l rx cs) else 4) else bndE l over
def allV (l over rx : Int) (cs : List Tri) : List Tri := if allE l over rx cs = 0 then srt (cs.map (spn l rx (bndV l over))) else []
def startE (l : Int) (cs : List Tri) : Int :=
  if perB l && cs.all cB then (if cs.length = 0 ∨ 16 < cs.length then 4 else if dup cs then 8 else 0) else 2
def low (l r : Int) (c : Tri) : Int := max r (c.2.2 - c.2.1 / l)
def startV (l : Int) (cs : List Tri) : Int := if startE l cs = 0 then cs.foldl (low l) (-604800000) else 0

theorem errs_snoc (l rx : Int) (cs : List Tri) (c : Tri) : errs l rx (cs ++ [c]) = if errs l rx cs = 0 then cE l rx c else errs l rx cs := by
  induction cs with
  | nil => simp only [List.nil_append, errs, if_pos]; by_cases h : cE l rx c = 0 <;> simp [h]
  | cons d ds ih => simp only [List.cons_append, errs]; rw [ih]; by_cases h : cE l rx d = 0 <;> simp [h]
theorem errs_take_ne (l rx : Int) (cs : List Tri) (k : Nat) (hk : k < cs.length) (h0 : errs l rx (cs.take k) = 0) (h : cE l rx cs[k] ≠ 0) : errs l rx cs = cE l rx cs[k] := by
  induction cs generalizing k with
  | nil => simp at hk
  | cons d ds ih =>
    cases k with
    | zero => simp at h ⊢; simp [errs, h]
    | succ k =>
      simp only [List.take_succ_cons, errs] at h0
      by_cases hd : cE l rx d = 0
      · simp only [errs, hd, if_pos] at h0 ⊢
        exact ih k (by simpa using hk) h0 (by simpa using h)
      · simp [hd] at h0
theorem errs_take_succ (l rx : Int) (cs : List Tri) (k : Nat) (hk : k < cs.length) (h0 : errs l rx (cs.take k) = 0) (h : cE l rx cs[k] = 0) : errs l rx (cs.take (k + 1)) = 0 := by
  rw [List.take_succ_eq_append_getElem hk, errs_snoc, if_pos h0, h]

theorem ins_perm (x : Tri) (L : List Tri) : (ins x L).Perm (x :: L) := by
  induction L with
  | nil => exact List.Perm.refl _
  | cons y ys ih =>
    unfold ins
    split
    · exact (List.Perm.cons y ih).trans (List.Perm.swap x y ys)
    · exact List.Perm.refl _
theorem foldl_ins_perm (L o : List Tri) : (L.foldl (fun o x => ins x o) o).Perm (o ++ L) := by
  induction L generalizing o with
  | nil => simp
  | cons x xs ih =>
    refine (ih (ins x o)).trans ?_
    refine ((ins_perm x o).append_right xs).trans ?_
    exact (List.perm_middle (a := x) (l₁ := o) (l₂ := xs)).symm
theorem srt_perm (L : List Tri) : (srt L).Perm L := foldl_ins_perm L []
theorem ins_sorted (x : Tri) (L : List Tri) (h : L.Pairwise (fun a b => a.1 ≤ b.1)) : (ins x L).Pairwise (fun a b => a.1 ≤ b.1) := by
  induction L with
  | nil => simp [ins]
  | cons y ys ih =>
    rw [List.pairwise_cons] at h
    unfold ins
    split
    · rename_i hlt
      rw [List.pairwise_cons]
      refine ⟨fun a ha => ?_, ih h.2⟩
      have := (ins_perm x ys).mem_iff.1 ha
      rcases List.mem_cons.1 this with rfl | hm
      · omega
      · exact h.1 a hm
    · rename_i hge
      rw [List.pairwise_cons, List.pairwise_cons]
      refine ⟨fun a ha => ?_, h⟩
      rcases List.mem_cons.1 ha with rfl | hm
      · omega
      · have := h.1 a hm; omega
theorem srt_sorted (L : List Tri) : (srt L).Pairwise (fun a b => a.1 ≤ b.1) := by
  have : ∀ (L o : List Tri), o.Pairwise (fun a b => a.1 ≤ b.1) → (L.foldl (fun o x => ins x o) o).Pairwise (fun a b => a.1 ≤ b.1) := by
    intro L
    induction L with
    | nil => intro o h; exact h
    | cons x xs ih => intro o h; exact ih _ (ins_sorted x o h)
  exact this L [] List.Pairwise.nil
/-- Two sorted permutations without equal numbers are one. -/
theorem sorted_unique : ∀ (A B : List Tri), A.Perm B → A.Pairwise (fun a b => a.1 ≤ b.1) → B.Pairwise (fun a b => a.1 ≤ b.1) → (A.map (·.1)).Nodup → A = B := by
  intro A
  induction A with
  | nil => intro B h _ _ _; exact (List.nil_perm.1 h).symm
  | cons a as ih =>
    intro B h hA hB hn
    cases B with
    | nil => exact absurd h.length_eq (by simp)
    | cons b bs =>
      rw [List.pairwise_cons] at hA hB
      have hab : a = b := by
        have hb : b ∈ a :: as := h.mem_iff.2 List.mem_cons_self
        have ha : a ∈ b :: bs := h.mem_iff.1 List.mem_cons_self
        rcases List.mem_cons.1 hb with e | hb
        · exact e.symm
        · rcases List.mem_cons.1 ha with e | ha
          · exact e
          · have h1 := hA.1 b hb
            have h2 := hB.1 a ha
            rw [List.map_cons, List.nodup_cons] at hn
            exact absurd (List.mem_map.2 ⟨b, hb, (show b.1 = a.1 by omega)⟩) hn.1
      subst hab
      rw [ih bs ((List.perm_cons a).1 h) hA.2 hB.2 (by rw [List.map_cons, List.nodup_cons] at hn; exact hn.2)]
theorem dup_false (cs : List Tri) : dup cs = false ↔ (cs.map (·.1)).Nodup := by
  induction cs with
  | nil => simp [dup]
  | cons c cs ih =>
    rw [List.map_cons, List.nodup_cons, ← ih]
    simp only [dup, Bool.or_eq_false_iff]
    have e : cs.any (fun d => decide (d.1 = c.1)) = false ↔ c.1 ∉ cs.map (·.1) := by
      rw [List.any_eq_false, List.mem_map]
      exact ⟨fun h ⟨d, hd, he⟩ => h d hd (by simpa using he), fun h d hd hc => h ⟨d, hd, by simpa using hc⟩⟩
    rw [e]
theorem spn_map_fst (l rx b : Int) (cs : List Tri) : (cs.map (spn l rx b)).map (·.1) = cs.map (·.1) := by simp [List.map_map, Function.comp_def, spn]
/-- What sorting leaves. -/
theorem srt_unique (L S : List Tri) (hp : S.Perm L) (hs : S.Pairwise (fun a b => a.1 ≤ b.1)) (hn : (L.map (·.1)).Nodup) : S = srt L :=
  sorted_unique S (srt L) (hp.trans (srt_perm L).symm) hs (srt_sorted L) ((hp.map (·.1)).nodup_iff.2 hn)
/-- Where an observation is put. -/
theorem ins_at (x : Tri) (o : List Tri) (k : Nat) (hk : k ≤ o.length) (h : ∀ j (hj : j < k), o[j].1 < x.1) (hge : ∀ hk' : k < o.length, ¬ o[k].1 < x.1) : ins x o = o.take k ++ x :: o.drop k := by
  induction o generalizing k with
  | nil => simp at hk; subst hk; simp [ins]
  | cons y ys ih =>
    cases k with
    | zero => have := hge (by simp); simp at this; simp [ins]; omega
    | succ k =>
      have h0 := h 0 (by omega)
      simp at h0
      unfold ins
      rw [if_pos h0, ih k (by simpa using hk) (fun j hj => by simpa using h (j + 1) (by omega)) (fun hk' => by have := hge (by simpa using hk'); rwa [List.getElem_cons_succ] at this)]
      simp
theorem ins_length (x : Tri) (o : List Tri) : (ins x o).length = o.length + 1 := by simpa using (ins_perm x o).length_eq
theorem srt_snoc (L : List Tri) (x : Tri) : srt (L ++ [x]) = ins x (srt L) := by simp [srt, List.foldl_append]
theorem srt_length (L : List Tri) : (srt L).length = L.length := (srt_perm L).length_eq
theorem startV_bd (l : Int) (hl : 1 ≤ l) (cs : List Tri) (h : cs.all cB = true) (r : Int) (h1 : -604800000 ≤ r) (h2 : r < 604800000) : -604800000 ≤ cs.foldl (low l) r ∧ cs.foldl (low l) r < 604800000 := by
  induction cs generalizing r with
  | nil => exact ⟨h1, h2⟩
  | cons c cs ih =>
    simp only [List.all_cons, Bool.and_eq_true] at h
    obtain ⟨hc, hcs⟩ := h
    simp [cB, chB] at hc
    have hq : 0 ≤ c.2.1 / l := Int.ediv_nonneg (by omega) (by omega)
    refine ih hcs _ ?_ ?_
    · unfold low; omega
    · unfold low; omega
end Go.Proofs.Ytacglimhkpfanaa.Plain
