/-
  WALK: double numbers among channels (the program: a set).
-/
import Derived.Test.YtacglimhkpfanaaDbl
import Derived.Maps.OwnSet
import Derived.Maps.Views
namespace Go.Proofs.Ytacglimhkpfanaa
open Go.RowKit Go.Maps Go.WideMaps

namespace Plain
def keyL (x : Int) : Lit := .int .i64 x
theorem any_key (acc : List Int) (x : Int) : (acc.map keyL).any (fun y => y.sameKey (keyL x)) = decide (x ∈ acc) := by
  induction acc with
  | nil => simp
  | cons a as' ih =>
    rw [List.map_cons, List.any_cons, ih]
    have e : (keyL a).sameKey (keyL x) = decide (x = a) := by simp [keyL, Lit.sameKey, eq_comm]
    rw [e]
    simp
theorem addKey_in {acc : List Int} {x : Int} (h : x ∈ acc) : addKey (acc.map keyL) (keyL x) = acc.map keyL := by
  unfold addKey
  rw [any_key, if_pos (by simpa using h)]
theorem addKey_out {acc : List Int} {x : Int} (h : x ∉ acc) : addKey (acc.map keyL) (keyL x) = (acc ++ [x]).map keyL := by
  unfold addKey
  rw [any_key, if_neg (by simpa using h)]
  simp
theorem keys_le (xs : List Int) : ∀ acc : List Int, ∃ acc' : List Int, (xs.map keyL).foldl addKey (acc.map keyL) = acc'.map keyL ∧ acc'.length ≤ acc.length + xs.length := by
  induction xs with
  | nil => intro acc; exact ⟨acc, rfl, by simp⟩
  | cons x xs ih =>
    intro acc
    by_cases h : x ∈ acc
    · obtain ⟨a, e, hl⟩ := ih acc
      exact ⟨a, by rw [List.map_cons, List.foldl_cons, addKey_in h]; exact e, by simp; omega⟩
    · obtain ⟨a, e, hl⟩ := ih (acc ++ [x])
      exact ⟨a, by rw [List.map_cons, List.foldl_cons, addKey_out h]; exact e, by simp at hl ⊢; omega⟩
theorem keys_new (xs : List Int) : ∀ acc : List Int, (acc ++ xs).Nodup → (xs.map keyL).foldl addKey (acc.map keyL) = (acc ++ xs).map keyL := by
  induction xs with
  | nil => intro acc _; simp
  | cons x xs ih =>
    intro acc h
    have hx : x ∉ acc := by
      intro hm
      have := List.nodup_append.1 h
      exact this.2.2 x hm x List.mem_cons_self rfl
    rw [List.map_cons, List.foldl_cons, addKey_out hx, ih (acc ++ [x]) (by simpa using h)]
    simp
theorem keys_less (xs : List Int) : ∀ acc : List Int, acc.Nodup → ¬ (acc ++ xs).Nodup → ∃ acc' : List Int, (xs.map keyL).foldl addKey (acc.map keyL) = acc'.map keyL ∧ acc'.length < acc.length + xs.length := by
  induction xs with
  | nil => intro acc h hn; simp at hn; exact absurd h hn
  | cons x xs ih =>
    intro acc h hn
    by_cases hx : x ∈ acc
    · obtain ⟨a, e, hl⟩ := keys_le xs acc
      exact ⟨a, by rw [List.map_cons, List.foldl_cons, addKey_in hx]; exact e, by simp; omega⟩
    · have h2 : (acc ++ [x]).Nodup := by
        rw [List.nodup_append]
        exact ⟨h, by simp, fun a ha b hb => by simp at hb; subst hb; exact fun e => hx (e ▸ ha)⟩
      obtain ⟨a, e, hl⟩ := ih (acc ++ [x]) h2 (by simpa using hn)
      exact ⟨a, by rw [List.map_cons, List.foldl_cons, addKey_out hx]; exact e, by simp at hl ⊢; omega⟩
def setN (cs : List Tri) (k : Nat) : List Lit := (cs.take k).map fun c => keyL c.1
theorem setN_succ (cs : List Tri) (k : Nat) (hk : k < cs.length) : setN cs (k + 1) = setN cs k ++ [keyL cs[k].1] := by
  unfold setN
  rw [List.take_succ_eq_append_getElem hk, List.map_append]
  rfl
theorem keyL_ok (xs : List Int) : ∀ x ∈ xs.map keyL, WideAt.IsKeyLit x := by
  intro x hx
  obtain ⟨a, _, rfl⟩ := List.mem_map.1 hx
  trivial
theorem size_dup {H : Type} (u : DataW H) (cs : List Tri) (k : Nat) (hl : cs.length = k) : decide (Maps.size (setOf u (setN cs k)) < k) = dup cs := by
  have e : setN cs k = (cs.map (·.1)).map keyL := by
    unfold setN
    rw [List.take_of_length_le (by omega), List.map_map]
    rfl
  rw [e, size_setOf u _ (keyL_ok _)]
  cases hd : dup cs
  · rw [dup_false] at hd
    have := keys_new (cs.map (·.1)) [] (by simpa using hd)
    simp only [List.map_nil, List.nil_append] at this
    rw [this]
    simp [hl]
  · have hn : ¬ (cs.map (·.1)).Nodup := fun h => by rw [(dup_false cs).2 h] at hd; cases hd
    obtain ⟨a, e, hlt⟩ := keys_less (cs.map (·.1)) [] List.nodup_nil (by simpa using hn)
    simp only [List.map_nil] at e
    rw [e]
    simp at hlt ⊢
    omega
end Plain

theorem law3 : Keyed Try.prog 3 := int_keyed Try.underlying3
theorem wf_i64 {x : Int} (h1 : 1 ≤ x) (h2 : x ≤ 2048) : (Lit.int .i64 x).wf = true := WalkArith.wf_i64 (by omega)

set_option maxHeartbeats 1000000 in
set_option maxRecDepth 100000 in
theorem double33_any (A : Option Addr) (k c : Nat) (cs : List Plain.Tri) (w : World) (hl : cs.length = k) (hk : k ≤ 1000000) (hr : Reads3 w w.heap.size A cs) (hv : ∀ c ∈ cs, 1 ≤ c.1 ∧ c.1 ≤ 2048) (r : Bool) (hR : Plain.dup cs = r) :
    Calls Try.prog 33 #[.slice A k c] w fun e w' => e = .returned (.bool r) ∧ Below w.heap.size w w' := by
  have HS := Lib.hid ((Plain.size_dup (H := Unit) (.agg []) cs k hl).trans hR)
  clear hR
  have HL := Lib.hid hl; clear hl
  have HR := Lib.hid hr; clear hr
  have HV := Lib.hid hv; clear hv
  have hmm := @run_makeMap Try.prog
  go_enter Try.func33, Try.ntmps33
  go_wp2_with fail
  go_loopw [9] (fun i wr => ∃ j : Nat, j ≤ k ∧ i = .int .i64 j ∧ wr.ownsMap Try.prog 3 (unitElem (H := Unit)) w.heap.size j (setOf (.agg []) (Plain.setN cs j)) ∧ Below w.heap.size w wr ∧ w.heap.size < wr.heap.size) (fun i _ => k - (intOf i).toNat)
  case atStart => exact ⟨0, Nat.zero_le _, rfl, by simpa [Plain.setN, setOf] using World.ownsMap_made _ _ _ _, (Below.refl _ _).alloc (Nat.le_refl _) _, by simp⟩
  case round =>
    obtain ⟨j, hj, rfl, hown, hB, hsz⟩ := hrel
    by_cases hlt : j < k
    · have hjl : j < cs.length := by rw [HL.out]; exact hlt
      obtain ⟨ad, hA, hab, h0, h1, h2⟩ := (HR.out.below hB (Nat.le_refl _)) j hjl
      subst hA
      have hvj := HV.out cs[j] (List.getElem_mem hjl)
      have hset := Plain.setN_succ cs j hjl
      obtain ⟨x, hx⟩ : ∃ x, cs[j] = x := ⟨_, rfl⟩
      rw [hx] at h0 h1 h2 hvj hset
      clear hx
      have hkey := keyOf_int_mk (P := Try.prog) Try.underlying3 (wf_i64 hvj.1 hvj.2)
      have HK := Lib.hid hkey; clear hkey
      have HSet := Lib.hid hset; clear hset
      have HO := Lib.hid hown; clear hown
      go_wp2_with (at_mapUpdate; refine wpList_mapUpdate_own _ rfl _ _ _ 54 rfl 3 55 law3 Try.underlying54 (unitElem (H := Unit)) w.heap.size j _ rfl (HO.out.alloc _) (by unfold maxLen; omega) _ _ _ rfl rfl HK.out (.agg []) [] unitElem_mk ?_; intro w1 hown1 hgrow1)
      go_roundw
      case rel => exact ⟨j + 1, by omega, by go_num, by rw [HSet.out, setOf_snoc]; exact hown1, (hB.alloc hB.size _).grown hgrow1 (by simp; omega) (fun j hj => by cases hj; exact Nat.le_refl _), by have := hgrow1.size; simp at this; omega⟩
      case measure => simp [intOf]; omega
    · obtain rfl : j = k := by omega
      have hs := HS.out
      have HO := Lib.hid hown; clear hown
      have hsz2 := HO.out.size_le
      go_wp2_with (at_len; refine wpList_len_own _ rfl _ 54 rfl 3 55 Try.underlying54 _ w.heap.size j _ rfl HO.out ?_)
      go_ret
      exact ⟨rfl, hB⟩
end Go.Proofs.Ytacglimhkpfanaa
