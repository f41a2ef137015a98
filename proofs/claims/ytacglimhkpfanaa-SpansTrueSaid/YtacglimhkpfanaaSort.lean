/-
  THE SORT of observations by their numbers: slices.SortFunc by its contract.
-/
import Derived.Test.YtacglimhkpfanaaDblM
import Derived.Shelf.SlSortCmp.WholeK
import Derived.Shelf.SlSortCmp.NoneTotal
import Derived.Shelf.SlGeneric
import Derived.Ground.SlsfProg
namespace Go.Proofs.Ytacglimhkpfanaa
open Go.Shelf Go.RowKit Go.Lib Go.Sort
shelf_lay_g SlLaysF0.n6 Slsf 6 at Try 34 as Try.sortSpans

/-- An observation with a number that a code can have. -/
abbrev Spn := { x : Plain.Tri // 1 ≤ x.1 ∧ x.1 ≤ 2048 }
instance : Inhabited Spn := ⟨⟨(1, 0, 0), by decide, by decide⟩⟩
def encSp (x : Spn) : List Value := [.int .i64 x.1.1, .int .i64 x.1.2.1, .int .i64 x.1.2.2]
def cfSp (x y : Spn) : Int := x.1.1 - y.1.1
theorem ltSp (x y : Spn) : ltOf cfSp x y = decide (x.1.1 < y.1.1) := by
  unfold ltOf cfSp
  rw [Bool.eq_iff_iff]
  simp
  omega
theorem swoSp : SWO (ltOf cfSp) where
  irrefl x := by rw [ltSp]; simp
  trans x y z h1 h2 := by rw [ltSp] at *; simp at *; omega
  ntrans x y z h1 h2 := by rw [ltSp] at *; simp at *; omega

set_option maxHeartbeats 1000000 in
theorem closure35 (x y : Spn) (W : World) : Calls Try.prog 35 #[.agg #[.int .i64 x.1.1, .int .i64 x.1.2.1, .int .i64 x.1.2.2], .agg #[.int .i64 y.1.1, .int .i64 y.1.2.1, .int .i64 y.1.2.2]] W fun e w' => e = .returned (.int .i64 (cfSp x y)) ∧ ∃ q os', w' = grow (W.drewN q) os' := by
  obtain ⟨⟨a, a1, a2⟩, ha, ha'⟩ := x
  obtain ⟨⟨b, b1, b2⟩, hb, hb'⟩ := y
  simp only at ha ha' hb hb'
  have HC := Lib.hid (show cfSp ⟨(a, a1, a2), ha, ha'⟩ ⟨(b, b1, b2), hb, hb'⟩ = a - b from rfl)
  go_enter Try.func35, Try.ntmps35
  go_wp2_with fail
  go_ret
  exact ⟨(congrArg (fun z => Ending.returned (Value.int .i64 z)) HC.out).symm, 0, _, by rw [alloc_eq_grow, alloc_eq_grow, grow_grow]; rfl⟩
theorem cmpLays35 (blk off size : Nat) (w : World) : CmpLays Try.prog 35 #[] encSp 3 cfSp blk off size w :=
  fun _ _ _ _ x y => closure35 x y _

/-- The cells of a list of triples. -/
def flat3 (L : List Plain.Tri) : List Value := L.flatMap fun x => [.int .i64 x.1, .int .i64 x.2.1, .int .i64 x.2.2]
theorem flat3_length (L : List Plain.Tri) : (flat3 L).length = L.length * 3 := by
  induction L with
  | nil => rfl
  | cons x xs ih => simp only [flat3, List.flatMap_cons, List.length_append, List.length_cons, List.length_nil] at ih ⊢; omega
theorem flat3_append (A B : List Plain.Tri) : flat3 (A ++ B) = flat3 A ++ flat3 B := by simp [flat3]
theorem flat3_get (L : List Plain.Tri) (j : Nat) (hj : j < L.length) : (flat3 L)[j * 3]? = some (.int .i64 L[j].1) ∧ (flat3 L)[j * 3 + 1]? = some (.int .i64 L[j].2.1) ∧ (flat3 L)[j * 3 + 2]? = some (.int .i64 L[j].2.2) := by
  induction L generalizing j with
  | nil => simp at hj
  | cons x xs ih =>
    have e : flat3 (x :: xs) = [.int .i64 x.1, .int .i64 x.2.1, .int .i64 x.2.2] ++ flat3 xs := by simp [flat3]
    cases j with
    | zero => rw [e]; exact ⟨rfl, rfl, rfl⟩
    | succ j =>
      obtain ⟨h0, h1, h2⟩ := ih j (by simpa using hj)
      rw [e, show (j + 1) * 3 = j * 3 + 3 by omega, show j * 3 + 3 + 1 = (j * 3 + 1) + 3 by omega, show j * 3 + 3 + 2 = (j * 3 + 2) + 3 by omega]
      simp only [List.getElem?_append, List.length_cons, List.length_nil, show ∀ n, ¬ n + 3 < 0 + 1 + 1 + 1 by omega, if_false, Nat.zero_add, show ∀ n, n + 3 - (1 + 1 + 1) = n by omega]
      exact ⟨h0, h1, h2⟩
theorem flat3_one (L : List Plain.Tri) : ∀ u ∈ flat3 L, u.oneCell' = true := by
  intro u hu
  obtain ⟨x, _, hx⟩ := List.mem_flatMap.1 hu
  simp at hx
  rcases hx with rfl | rfl | rfl <;> rfl

theorem sort_below {α : Type} [Inhabited α] (enc : α → List Value) (k : Nat) (w : World) (blk off n : Nat) (d : Array α) (os : Array Obj) (B : Nat) (hB : B ≤ blk) (hw : B ≤ w.heap.size) : Below B w (sortWorldK enc k w blk off n d os) := by
  refine ⟨rfl, rfl, rfl, ?_, fun j hj => ?_⟩
  · simp [sortWorldK, putRowK, putRow, mapBlock, grow]
  · show ((w.heap.modify blk _) ++ os)[j]? = w.heap[j]?
    rw [Array.getElem?_append_left (by simp; omega), Array.getElem?_modify, if_neg (by omega)]

/-- What the sort leaves, in words of lists. -/
theorem perm_whole {α : Type} [Inhabited α] {d d' : Array α} (h : PermIn 0 d.size d d') : d'.toList.Perm d.toList := by
  obtain ⟨hs, _, hp⟩ := h
  have e1 : d.extract 0 d.size = d := by simp
  have e2 : d'.extract 0 d.size = d' := by rw [← hs]; simp
  rw [e1, e2] at hp
  exact hp
theorem sorted_whole {d : Array Spn} (h : SortedIn (ltOf cfSp) 0 d.size d) : (d.toList.map (·.1)).Pairwise (fun a b => a.1 ≤ b.1) := by
  refine List.pairwise_iff_getElem.2 fun i j hi hj hlt => ?_
  simp at hi hj
  have := h i j (Nat.zero_le _) hlt hj
  rw [ltSp, getElem!_pos d j hj, getElem!_pos d i hi] at this
  simp at this ⊢
  exact this
def spns (V : List Plain.Tri) (hv : ∀ x ∈ V, 1 ≤ x.1 ∧ x.1 ≤ 2048) : Array Spn := (V.attach.map fun x => (⟨x.1, hv x.1 x.2⟩ : Spn)).toArray
theorem spns_val (V : List Plain.Tri) (hv : ∀ x ∈ V, 1 ≤ x.1 ∧ x.1 ≤ 2048) : (spns V hv).toList.map (·.1) = V := by
  unfold spns
  rw [List.map_map]
  exact List.attach_map_subtype_val V
theorem spns_size (V : List Plain.Tri) (hv : ∀ x ∈ V, 1 ≤ x.1 ∧ x.1 ≤ 2048) : (spns V hv).size = V.length := by simp [spns]
theorem spns_get (V : List Plain.Tri) (hv : ∀ x ∈ V, 1 ≤ x.1 ∧ x.1 ≤ 2048) (j : Nat) (hj : j < V.length) : ((spns V hv)[j]!).1 = V[j] := by
  rw [getElem!_pos _ _ (by rw [spns_size]; exact hj)]
  simp [spns]

theorem add0 (g : Nat) (i : Nat) : (⟨g, 0, none⟩ : Addr).add i = ⟨g, i, none⟩ := by
  unfold Addr.add
  split
  · subst_vars; rfl
  · simp

theorem sort34_none (w : World) : Calls Try.prog 34 #[.slice none 0 0, .func (.func 35) #[] #[]] w fun e w' => e = .returned (.tuple #[]) ∧ w = w' := by
  have := AnyF.slices_SortFunc_none Try.sortSpans none 0 (.func (.func 35) #[] #[]) w
  change Calls Try.prog 34 _ _ _ at this
  exact this.mono fun _ _ ⟨h1, h2⟩ => ⟨h1, h2.symm⟩

theorem sort34_some (g cap n : Nat) (V : List Plain.Tri) (w : World) (base : Nat) (hn : V.length = n) (hbase : base ≤ g) (hg : g < w.heap.size)
    (hc : ∀ j u, (flat3 V)[j]? = some u → w.cell? ⟨g, j, none⟩ = some u ∧ w.frozen? ⟨g, j, none⟩ = false)
    (hv : ∀ x ∈ V, 1 ≤ x.1 ∧ x.1 ≤ 2048) (hd : (V.map (·.1)).Nodup) (hsz : n ≤ 1000000) :
    Calls Try.prog 34 #[.slice (some ⟨g, 0, none⟩) n cap, .func (.func 35) #[] #[]] w fun e w' => e = .returned (.tuple #[]) ∧ Reads3 w' w'.heap.size (some ⟨g, 0, none⟩) (Plain.srt V) ∧ Below base w w' := by
  subst hn
  have eg : ∀ args w, (callFunc 35 args).run Try.prog w = .ok (.enter 35 args) w := enters_of Try.func35 (by kernel_rfl) rfl
  have hH : HoldsK encSp 3 w g 0 (spns V hv) := by
    intro j hj
    rw [size_flatK, spns_size] at hj
    rw [get_flatK _ _ _ _ (by rw [spns_size]; exact hj), Nat.zero_add]
    have hq : j / 3 < V.length := by omega
    have hx : encSp (spns V hv)[j / 3]! = [.int .i64 V[j / 3].1, .int .i64 V[j / 3].2.1, .int .i64 V[j / 3].2.2] := by
      unfold encSp
      rw [spns_get V hv _ hq]
    rw [hx]
    obtain ⟨h0, h1, h2⟩ := flat3_get V (j / 3) hq
    have hm : j % 3 = 0 ∨ j % 3 = 1 ∨ j % 3 = 2 := by omega
    rcases hm with hm | hm | hm
    · rw [hm]; exact hc j _ (by rw [show j / 3 * 3 = j by omega] at h0; exact h0)
    · rw [hm]; exact hc j _ (by rw [show j / 3 * 3 + 1 = j by omega] at h1; exact h1)
    · rw [hm]; exact hc j _ (by rw [show j / 3 * 3 + 2 = j by omega] at h2; exact h2)
  have hcon := AnyQ.slices_SortFunc Try.sortSpans 3 Try.isAgg44 Try.sizeOf44 encSp (fun _ => rfl) (fun x v hv => by simp [encSp] at hv; rcases hv with rfl | rfl | rfl <;> rfl) cfSp swoSp 35 #[] g 0 cap (spns V hv) w eg (cmpLays35 g 0 _ w) hH hg (by rw [spns_size]; omega)
  change Calls Try.prog 34 _ _ _ at hcon
  rw [spns_size] at hcon
  refine hcon.mono ?_
  rintro e w' ⟨he, d', m, os, hp, hs, rfl⟩
  have hds : d'.size = V.length := by rw [hp.1, spns_size]
  have hperm : (d'.toList.map (·.1)).Perm V := by
    have := (perm_whole (d := spns V hv) (d' := d') (by rw [spns_size]; exact hp)).map (fun x : Spn => x.1)
    rwa [spns_val] at this
  have hsrt : d'.toList.map (·.1) = Plain.srt V := Plain.srt_unique V _ hperm (sorted_whole (by rw [hds]; exact hs)) hd
  refine ⟨he, ?_, sort_below _ _ _ _ _ _ _ _ _ hbase (by omega)⟩
  have hH' : HoldsK encSp 3 (sortWorldK encSp 3 w g 0 m d' os) g 0 d' := by
    refine holdsK_grow _ _ _ _ _ _ _ ?_ (holdsK_putRowK encSp 3 (Sort.ahead w m) g 0 (spns V hv) d' (holdsK_ahead encSp 3 w m g 0 _ hH) (by rw [hds, spns_size]))
    simpa [putRowK, putRow, mapBlock, ahead] using hg
  refine Reads3.mk ?_ fun j hj => ?_
  · show g < _
    simp [sortWorldK, putRowK, putRow, mapBlock, grow]
    omega
  · have hj2 : j < d'.size := by rw [hds, ← Plain.srt_length V]; exact hj
    have hval : (Plain.srt V)[j] = (d'[j]!).1 := by
      rw [getElem!_pos d' j hj2]
      simp [← hsrt]
    rw [add0, add0, add0, hval]
    have k0 := (hH'.cell hj2 (show 0 < 3 by omega)).1
    have k1 := (hH'.cell hj2 (show 1 < 3 by omega)).1
    have k2 := (hH'.cell hj2 (show 2 < 3 by omega)).1
    rw [Nat.zero_add] at k0 k1 k2
    exact ⟨k0, k1, k2⟩
end Go.Proofs.Ytacglimhkpfanaa
