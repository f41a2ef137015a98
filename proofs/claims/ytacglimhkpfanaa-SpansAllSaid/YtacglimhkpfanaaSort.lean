/-
  THE SORT of observations by their numbers: slices.SortFunc by its contract.
-/
import Derived.Test.YtacglimhkpfanaaDblM
import Derived.Shelf.SlSortCmp.WholeK
import Derived.Shelf.SlSortCmp.NoneTotal
namespace Go.Proofs.Ytacglimhkpfanaa
open Go.Shelf Go.RowKit Go.Lib Go.Sort
def Try.sortSpans_ren : Go.Shelf.Ren := ⟨fun | 6 => 34 | 15 => 40 | 14 => 39 | 28 => 50 | 29 => 51 | 20 => 42 | 21 => 43 | 22 => 44 | 23 => 45 | 24 => 46 | 25 => 47 | 26 => 48 | 27 => 49 | 46 => 52 | 47 => 53 | 48 => 54 | 49 => 55 | 50 => 56 | 57 => 57 | n => n, fun | 22 => 35 | 24 => 44 | 25 => 52 | 3 => 3 | 39 => 58 | 0 => 0 | 53 => 69 | 55 => 71 | 4 => 4 | 46 => 62 | 45 => 61 | 50 => 66 | 5 => 5 | 9 => 9 | 66 => 72 | 70 => 76 | 76 => 78 | 77 => 79 | n => n, fun | n => n⟩
theorem Try.sortSpans : Go.Proofs.SlLaysF0.n6 Try.prog Try.sortSpans_ren := {
  mixed := by kernel_rfl
  f6 := ⟨Try.f34.name, by decide, Try.func34.trans (congrArg some (by kernel_rfl))⟩
  f14 := ⟨Try.f39.name, by decide, Try.func39.trans (congrArg some (by kernel_rfl))⟩
  f15 := Try.func40.trans (congrArg some (by kernel_rfl))
  f20 := ⟨Try.f42.name, by decide, Try.func42.trans (congrArg some (by kernel_rfl))⟩
  f21 := ⟨Try.f43.name, by decide, Try.func43.trans (congrArg some (by kernel_rfl))⟩
  f22 := ⟨Try.f44.name, by decide, Try.func44.trans (congrArg some (by kernel_rfl))⟩
  f23 := ⟨Try.f45.name, by decide, Try.func45.trans (congrArg some (by kernel_rfl))⟩
  f24 := ⟨Try.f46.name, by decide, Try.func46.trans (congrArg some (by kernel_rfl))⟩
  f25 := ⟨Try.f47.name, by decide, Try.func47.trans (congrArg some (by kernel_rfl))⟩
  f26 := ⟨Try.f48.name, by decide, Try.func48.trans (congrArg some (by kernel_rfl))⟩
  f27 := ⟨Try.f49.name, by decide, Try.func49.trans (congrArg some (by kernel_rfl))⟩
  f28 := Try.func50.trans (congrArg some (by kernel_rfl))
  f29 := Try.func51.trans (congrArg some (by kernel_rfl))
  f46 := ⟨Try.f52.name, by decide, Try.func52.trans (congrArg some (by kernel_rfl))⟩
  f47 := Try.func53.trans (congrArg some (by kernel_rfl))
  f48 := Try.func54.trans (congrArg some (by kernel_rfl))
  f49 := ⟨Try.f55.name, by decide, Try.func55.trans (congrArg some (by kernel_rfl))⟩
  f50 := ⟨Try.f56.name, by decide, Try.func56.trans (congrArg some (by kernel_rfl))⟩
  f57 := ⟨Try.f57.name, by decide, Try.func57.trans (congrArg some (by kernel_rfl))⟩
  t0 := Try.underlying0
  a0 := Try.isAgg0
  z0 := Try.sizeOf0
  v0 := Try.zeroValue0
  t3 := Try.underlying3
  a3 := Try.isAgg3
  z3 := Try.sizeOf3
  v3 := Try.zeroValue3
  t4 := Try.underlying4
  a4 := Try.isAgg4
  z4 := Try.sizeOf4
  v4 := Try.zeroValue4
  t5 := Try.underlying5
  a5 := Try.isAgg5
  z5 := Try.sizeOf5
  v5 := Try.zeroValue5
  t9 := Try.underlying9
  a9 := Try.isAgg9
  z9 := Try.sizeOf9
  v9 := Try.zeroValue9
  t22 := Try.underlying35
  a22 := Try.isAgg35
  z22 := Try.sizeOf35
  v22 := Try.zeroValue35
  t25 := Try.underlying52
  a25 := Try.isAgg52
  z25 := Try.sizeOf52
  v25 := Try.zeroValue52
  t39 := Try.underlying58
  a39 := Try.isAgg58
  z39 := Try.sizeOf58
  v39 := Try.zeroValue58
  t45 := Try.underlying61
  a45 := Try.isAgg61
  z45 := Try.sizeOf61
  v45 := Try.zeroValue61
  t46 := Try.underlying62
  a46 := Try.isAgg62
  z46 := Try.sizeOf62
  v46 := Try.zeroValue62
  t50 := Try.underlying66
  a50 := Try.isAgg66
  z50 := Try.sizeOf66
  v50 := Try.zeroValue66
  t53 := Try.underlying69
  a53 := Try.isAgg69
  z53 := Try.sizeOf69
  v53 := Try.zeroValue69
  t55 := Try.underlying71
  a55 := Try.isAgg71
  z55 := Try.sizeOf71
  v55 := Try.zeroValue71
  t66 := Try.underlying72
  a66 := Try.isAgg72
  z66 := Try.sizeOf72
  v66 := Try.zeroValue72
  t70 := Try.underlying76
  a70 := Try.isAgg76
  z70 := Try.sizeOf76
  v70 := Try.zeroValue76
  t76 := Try.underlying78
  a76 := Try.isAgg78
  z76 := Try.sizeOf78
  v76 := Try.zeroValue78
  t77 := Try.underlying79
  a77 := Try.isAgg79
  z77 := Try.sizeOf79
  v77 := Try.zeroValue79 }

/-- An observation with a number that a code can have. -/
abbrev Spn := { x : Plain.Tri // 1 ≤ x.1 ∧ x.1 ≤ 2048 }
instance : Inhabited Spn := ⟨⟨(1, 0, 0), by decide, by decide⟩⟩
def encSp (x : Spn) : List Value := [.int .i64 x.1.1, .int .i64 x.1.2.1, .int .i64 x.1.2.2]
def cfSp (x y : Spn) : Int := x.1.1 - y.1.1
theorem ltSp (x y : Spn) : ltOf cfSp x y = decide (x.1.1 < y.1.1) := by
  unfold ltOf cfSp
  rw [Bool.eq_iff_iff]
  simp
  omega
theorem swoSp : SWO (ltOf cfSp) where
  irrefl x := by rw [ltSp]; simp
  trans x y z h1 h2 := by rw [ltSp] at *; simp at *; omega
  ntrans x y z h1 h2 := by rw [ltSp] at *; simp at *; omega

set_option maxHeartbeats 1000000 in
theorem closure35 (x y : Spn) (W : World) : Calls Try.prog 35 #[.agg #[.int .i64 x.1.1, .int .i64 x.1.2.1, .int .i64 x.1.2.2], .agg #[.int .i64 y.1.1, .int .i64 y.1.2.1, .int .i64 y.1.2.2]] W fun e w' => e = .returned (.int .i64 (cfSp x y)) ∧ ∃ q os', w' = grow (W.drewN q) os' := by
  obtain ⟨⟨a, a1, a2⟩, ha, ha'⟩ := x
  obtain ⟨⟨b, b1, b2⟩, hb, hb'⟩ := y
  simp only at ha ha' hb hb'
  have HC := Lib.hid (show cfSp ⟨(a, a1, a2), ha, ha'⟩ ⟨(b, b1, b2), hb, hb'⟩ = a - b from rfl)
  go_enter Try.func35, Try.ntmps35
  go_wp2_with fail
  go_ret
  exact ⟨(congrArg (fun z => Ending.returned (Value.int .i64 z)) HC.out).symm, 0, _, by rw [alloc_eq_grow, alloc_eq_grow, grow_grow]; rfl⟩
theorem cmpLays35 (blk off size : Nat) (w : World) : CmpLays Try.prog 35 #[] encSp 3 cfSp blk off size w :=
  fun _ _ _ _ x y => closure35 x y _

/-- The cells of a list of triples. -/
def flat3 (L : List Plain.Tri) : List Value := L.flatMap fun x => [.int .i64 x.1, .int .i64 x.2.1, .int .i64 x.2.2]
theorem flat3_length (L : List Plain.Tri) : (flat3 L).length = L.length * 3 := by
  induction L with
  | nil => rfl
  | cons x xs ih => simp only [flat3, List.flatMap_cons, List.length_append, List.length_cons, List.length_nil] at ih ⊢; omega
theorem flat3_append (A B : List Plain.Tri) : flat3 (A ++ B) = flat3 A ++ flat3 B := by simp [flat3]
theorem flat3_get (L : List Plain.Tri) (j : Nat) (hj : j < L.length) : (flat3 L)[j * 3]? = some (.int .i64 L[j].1) ∧ (flat3 L)[j * 3 + 1]? = some (.int .i64 L[j].2.1) ∧ (flat3 L)[j * 3 + 2]? = some (.int .i64 L[j].2.2) := by
  induction L generalizing j with
  | nil => simp at hj
  | cons x xs ih =>
    have e : flat3 (x :: xs) = [.int .i64 x.1, .int .i64 x.2.1, .int .i64 x.2.2] ++ flat3 xs := by simp [flat3]
    cases j with
    | zero => rw [e]; exact ⟨rfl, rfl, rfl⟩
    | succ j =>
      obtain ⟨h0, h1, h2⟩ := ih j (by simpa using hj)
      rw [e, show (j + 1) * 3 = j * 3 + 3 by omega, show j * 3 + 3 + 1 = (j * 3 + 1) + 3 by omega, show j * 3 + 3 + 2 = (j * 3 + 2) + 3 by omega]
      simp only [List.getElem?_append, List.length_cons, List.length_nil, show ∀ n, ¬ n + 3 < 0 + 1 + 1 + 1 by omega, if_false, Nat.zero_add, show ∀ n, n + 3 - (1 + 1 + 1) = n by omega]
      exact ⟨h0, h1, h2⟩
theorem flat3_one (L : List Plain.Tri) : ∀ u ∈ flat3 L, u.oneCell' = true := by
  intro u hu
  obtain ⟨x, _, hx⟩ := List.mem_flatMap.1 hu
  simp at hx
  rcases hx with rfl | rfl | rfl <;> rfl

theorem sort_below {α : Type} [Inhabited α] (enc : α → List Value) (k : Nat) (w : World) (blk off n : Nat) (d : Array α) (os : Array Obj) (B : Nat) (hB : B ≤ blk) (hw : B ≤ w.heap.size) : Below B w (sortWorldK enc k w blk off n d os) := by
  refine ⟨rfl, rfl, rfl, ?_, fun j hj => ?_⟩
  · simp [sortWorldK, putRowK, putRow, mapBlock, grow]
  · show ((w.heap.modify blk _) ++ os)[j]? = w.heap[j]?
    rw [Array.getElem?_append_left (by simp; omega), Array.getElem?_modify, if_neg (by omega)]

/-- What the sort leaves, in words of lists. -/
theorem perm_whole {α : Type} [Inhabited α] {d d' : Array α} (h : PermIn 0 d.size d d') : d'.toList.Perm d.toList := by
  obtain ⟨hs, _, hp⟩ := h
  have e1 : d.extract 0 d.size = d := by simp
  have e2 : d'.extract 0 d.size = d' := by rw [← hs]; simp
  rw [e1, e2] at hp
  exact hp
theorem sorted_whole {d : Array Spn} (h : SortedIn (ltOf cfSp) 0 d.size d) : (d.toList.map (·.1)).Pairwise (fun a b => a.1 ≤ b.1) := by
  refine List.pairwise_iff_getElem.2 fun i j hi hj hlt => ?_
  simp at hi hj
  have := h i j (Nat.zero_le _) hlt hj
  rw [ltSp, getElem!_pos d j hj, getElem!_pos d i hi] at this
  simp at this ⊢
  exact this
def spns (V : List Plain.Tri) (hv : ∀ x ∈ V, 1 ≤ x.1 ∧ x.1 ≤ 2048) : Array Spn := (V.attach.map fun x => (⟨x.1, hv x.1 x.2⟩ : Spn)).toArray
theorem spns_val (V : List Plain.Tri) (hv : ∀ x ∈ V, 1 ≤ x.1 ∧ x.1 ≤ 2048) : (spns V hv).toList.map (·.1) = V := by
  unfold spns
  rw [List.map_map]
  exact List.attach_map_subtype_val V
theorem spns_size (V : List Plain.Tri) (hv : ∀ x ∈ V, 1 ≤ x.1 ∧ x.1 ≤ 2048) : (spns V hv).size = V.length := by simp [spns]
theorem spns_get (V : List Plain.Tri) (hv : ∀ x ∈ V, 1 ≤ x.1 ∧ x.1 ≤ 2048) (j : Nat) (hj : j < V.length) : ((spns V hv)[j]!).1 = V[j] := by
  rw [getElem!_pos _ _ (by rw [spns_size]; exact hj)]
  simp [spns]

theorem add0 (g : Nat) (i : Nat) : (⟨g, 0, none⟩ : Addr).add i = ⟨g, i, none⟩ := by
  unfold Addr.add
  split
  · subst_vars; rfl
  · simp

theorem sort34_none (w : World) : Calls Try.prog 34 #[.slice none 0 0, .func (.func 35) #[] #[]] w fun e w' => e = .returned (.tuple #[]) ∧ w = w' := by
  have := AnyF.slices_SortFunc_none Try.sortSpans none 0 (.func (.func 35) #[] #[]) w
  change Calls Try.prog 34 _ _ _ at this
  exact this.mono fun _ _ ⟨h1, h2⟩ => ⟨h1, h2.symm⟩

theorem sort34_some (g cap n : Nat) (V : List Plain.Tri) (w : World) (base : Nat) (hn : V.length = n) (hbase : base ≤ g) (hg : g < w.heap.size)
    (hc : ∀ j u, (flat3 V)[j]? = some u → w.cell? ⟨g, j, none⟩ = some u ∧ w.frozen? ⟨g, j, none⟩ = false)
    (hv : ∀ x ∈ V, 1 ≤ x.1 ∧ x.1 ≤ 2048) (hd : (V.map (·.1)).Nodup) (hsz : n ≤ 1000000) :
    Calls Try.prog 34 #[.slice (some ⟨g, 0, none⟩) n cap, .func (.func 35) #[] #[]] w fun e w' => e = .returned (.tuple #[]) ∧ Reads3 w' w'.heap.size (some ⟨g, 0, none⟩) (Plain.srt V) ∧ Below base w w' := by
  subst hn
  have eg : ∀ args w, (callFunc 35 args).run Try.prog w = .ok (.enter 35 args) w := enters_of Try.func35 (by kernel_rfl) rfl
  have hH : HoldsK encSp 3 w g 0 (spns V hv) := by
    intro j hj
    rw [size_flatK, spns_size] at hj
    rw [get_flatK _ _ _ _ (by rw [spns_size]; exact hj), Nat.zero_add]
    have hq : j / 3 < V.length := by omega
    have hx : encSp (spns V hv)[j / 3]! = [.int .i64 V[j / 3].1, .int .i64 V[j / 3].2.1, .int .i64 V[j / 3].2.2] := by
      unfold encSp
      rw [spns_get V hv _ hq]
    rw [hx]
    obtain ⟨h0, h1, h2⟩ := flat3_get V (j / 3) hq
    have hm : j % 3 = 0 ∨ j % 3 = 1 ∨ j % 3 = 2 := by omega
    rcases hm with hm | hm | hm
    · rw [hm]; exact hc j _ (by rw [show j / 3 * 3 = j by omega] at h0; exact h0)
    · rw [hm]; exact hc j _ (by rw [show j / 3 * 3 + 1 = j by omega] at h1; exact h1)
    · rw [hm]; exact hc j _ (by rw [show j / 3 * 3 + 2 = j by omega] at h2; exact h2)
  have hcon := AnyQ.slices_SortFunc Try.sortSpans 3 Try.isAgg44 Try.sizeOf44 encSp (fun _ => rfl) (fun x v hv => by simp [encSp] at hv; rcases hv with rfl | rfl | rfl <;> rfl) cfSp swoSp 35 #[] g 0 cap (spns V hv) w eg (cmpLays35 g 0 _ w) hH hg (by rw [spns_size]; omega)
  change Calls Try.prog 34 _ _ _ at hcon
  rw [spns_size] at hcon
  refine hcon.mono ?_
  rintro e w' ⟨he, d', m, os, hp, hs, rfl⟩
  have hds : d'.size = V.length := by rw [hp.1, spns_size]
  have hperm : (d'.toList.map (·.1)).Perm V := by
    have := (perm_whole (d := spns V hv) (d' := d') (by rw [spns_size]; exact hp)).map (fun x : Spn => x.1)
    rwa [spns_val] at this
  have hsrt : d'.toList.map (·.1) = Plain.srt V := Plain.srt_unique V _ hperm (sorted_whole (by rw [hds]; exact hs)) hd
  refine ⟨he, ?_, sort_below _ _ _ _ _ _ _ _ _ hbase (by omega)⟩
  have hH' : HoldsK encSp 3 (sortWorldK encSp 3 w g 0 m d' os) g 0 d' := by
    refine holdsK_grow _ _ _ _ _ _ _ ?_ (holdsK_putRowK encSp 3 (Sort.ahead w m) g 0 (spns V hv) d' (holdsK_ahead encSp 3 w m g 0 _ hH) (by rw [hds, spns_size]))
    simpa [putRowK, putRow, mapBlock, ahead] using hg
  refine Reads3.mk ?_ fun j hj => ?_
  · show g < _
    simp [sortWorldK, putRowK, putRow, mapBlock, grow]
    omega
  · have hj2 : j < d'.size := by rw [hds, ← Plain.srt_length V]; exact hj
    have hval : (Plain.srt V)[j] = (d'[j]!).1 := by
      rw [getElem!_pos d' j hj2]
      simp [← hsrt]
    rw [add0, add0, add0, hval]
    have k0 := (hH'.cell hj2 (show 0 < 3 by omega)).1
    have k1 := (hH'.cell hj2 (show 1 < 3 by omega)).1
    have k2 := (hH'.cell hj2 (show 2 < 3 by omega)).1
    rw [Nat.zero_add] at k0 k1 k2
    exact ⟨k0, k1, k2⟩
end Go.Proofs.Ytacglimhkpfanaa
