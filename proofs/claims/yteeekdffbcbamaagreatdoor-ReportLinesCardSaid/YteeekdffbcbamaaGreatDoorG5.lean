/-
  WALKS: numbers are added to the fields of a line (package report).
-/
import Derived.Test.YteeekdffbcbamaaGreatDoorG1
import Derived.Test.YteeekdffbcbamaaGreatDoorG4
import Derived.Deep.RegionHeld3
import Derived.Deep.AppendLies
namespace Go.Proofs.YteeekdffbcbamaaGreatDoor
open Go.RowKit

theorem infoS : (Tryz.prog.info? 9).map (fun i => (i.zero, i.size, i.bytes)) = some (some (.string ByteArray.empty), 1, 16) := by kernel_rfl
/-- The fields of a line: a slice of texts in a cell. -/
def FldR (w : World) (f : Nat) (ss : List ByteArray) : Prop :=
  ∃ v, Blk w f 94 #[v] ∧ w.ownsRow (f + 1) 9 1 v ss.length (ss.map Value.string)
/-- Numbers that lie beside the fields. -/
def NumAt (w : World) (f : Nat) (A : Option Addr) (l : List Int) : Prop :=
  ∀ j (h : j < l.length), ∃ ad, A = some ad ∧ (ad.block < f ∨ (f < ad.block ∧ ∃ cs, w.heap[ad.block]? = some (.cells cs 3 (0, 0)))) ∧ w.cell? (ad.add j) = some (.int .i64 l[j])
theorem add_block (a : Addr) (n : Nat) : (a.add n).block = a.block := by unfold Addr.add; split <;> rfl
theorem cell_lt {w : World} {a : Addr} {v : Value} (h : w.cell? a = some v) : a.block < w.heap.size := by
  rcases Nat.lt_or_ge a.block w.heap.size with h' | h'
  · exact h'
  · simp [World.cell?, Array.getElem?_eq_none h'] at h
theorem own_type {w : World} {base : Nat} {e : TypeId} {size n : Nat} {v : Value} {xs : List Value} (h : w.ownsRow base e size v n xs) {g : Nat} (hg : v.ownBlock = some g) : ∃ cs, w.heap[g]? = some (.cells cs e (0, 0)) := by
  rcases h.2 with ⟨rfl, _⟩ | ⟨g', cap, cur, rfl, _, hc, _⟩
  · exact absurd hg (by simp [Value.ownBlock])
  · obtain rfl : g' = g := by simpa [Value.ownBlock] using hg
    exact ⟨cur, hc⟩
theorem NumAt.grown {w w' : World} {f : Nat} {A : Option Addr} {l : List Int} {row : Option Nat} (h : NumAt w f A l) (hg : w.grownBy w' row)
    (hr : ∀ g, row = some g → g = f ∨ (f < g ∧ ∃ cs, w.heap[g]? = some (.cells cs 9 (0, 0)))) : NumAt w' f A l := by
  intro j hj
  obtain ⟨ad, hA, hb, hc⟩ := h j hj
  have hlt := cell_lt hc
  rw [add_block] at hlt
  have hne : some ad.block ≠ row := by
    intro he
    rcases hr _ he.symm with h1 | ⟨h1, cs, h2⟩
    · rcases hb with h3 | ⟨h3, _⟩ <;> omega
    · rcases hb with h3 | ⟨_, cs', h3⟩
      · omega
      · rw [h3] at h2
        simp at h2
  refine ⟨ad, hA, ?_, (World.cell?_of_block (hg.block _ (by rw [add_block]; exact hlt) (by rw [add_block]; exact hne))).trans hc⟩
  rcases hb with h3 | ⟨h3, cs, h4⟩
  · exact Or.inl h3
  · exact Or.inr ⟨h3, cs, (hg.block _ hlt hne).trans h4⟩
theorem own_below {w w' : World} {base : Nat} {e : TypeId} {size n : Nat} {v : Value} {xs : List Value} (h : w.ownsRow base e size v n xs) (hb : Below w.heap.size w w') : w'.ownsRow base e size v n xs :=
  h.kept (grown_below hb) (by cases v.ownBlock with
    | none => exact Or.inl rfl
    | some _ => exact Or.inr (by simp))
theorem NumAt.below {w w' : World} {f : Nat} {A : Option Addr} {l : List Int} (h : NumAt w f A l) (hb : Below w.heap.size w w') : NumAt w' f A l :=
  h.grown (grown_below hb) (fun g e => by cases e)
theorem FldR.below {w w' : World} {f : Nat} {ss : List ByteArray} (h : FldR w f ss) (hb : Below w.heap.size w w') : FldR w' f ss := by
  obtain ⟨v, h1, h2⟩ := h
  exact ⟨v, h1.below hb h1.lt, h2.kept (grown_below hb) (by cases v.ownBlock with
    | none => exact Or.inl rfl
    | some _ => exact Or.inr (by simp))⟩

theorem fblk {wr w7 w9 : World} {f m : Nat} {v : Value} {us : List Value} {o : Obj} (h : Blk wr f 94 #[v]) (ho : wr.ownsRow (f + 1) 9 1 v m us) (hb : Below wr.drew.heap.size wr.drew w7) (hg : (w7.alloc o).grownBy w9 v.ownBlock) : Blk w9 f 94 #[v] :=
  ((Blk.below (show Blk wr.drew f _ _ from h) hb h.lt).alloc o).grown hg (Ne.symm (own_ne ho (by omega)))
theorem hk9' {wr w7 w9 : World} {f m : Nat} {v : Value} {us : List Value} {o : Obj} (h : Blk wr f 94 #[v]) (ho : wr.ownsRow (f + 1) 9 1 v m us) (hb : Below wr.drew.heap.size wr.drew w7) (hg : (w7.alloc o).grownBy w9 v.ownBlock) : w9.cell? ⟨f, 0, none⟩ = some v :=
  (fblk h ho hb hg).cell 0
theorem hf9' {wr w7 w9 : World} {f m : Nat} {v : Value} {us : List Value} {o : Obj} (h : Blk wr f 94 #[v]) (ho : wr.ownsRow (f + 1) 9 1 v m us) (hb : Below wr.drew.heap.size wr.drew w7) (hg : (w7.alloc o).grownBy w9 v.ownBlock) (i : Nat) : w9.frozen? ⟨f, i, none⟩ = false :=
  (fblk h ho hb hg).frozen i
theorem add_step {w wr w7 w9 : World} {f m gg cap : Nat} {v : Value} {us : List Value} {x : ByteArray} {A : Option Addr} {l : List Int} {ss ss' : List ByteArray} (hm : ss.length = m) (hu : ss.map Value.string = us) (hs : ss' = ss ++ [x])
    (h : Blk wr f 94 #[v]) (ho : wr.ownsRow (f + 1) 9 1 v m us) (hN : NumAt wr f A l) (hB : Below f w wr) (hb : Below wr.drew.heap.size wr.drew w7) (hg : (w7.alloc (.cells #[.string x] 9)).grownBy w9 v.ownBlock)
    (ho9 : w9.ownsRow (f + 1) 9 1 (.slice (some ⟨gg, 0, none⟩) (m + 1) cap) (m + 1) (us ++ [.string x])) :
    FldR (w9.setCell ⟨f, 0, none⟩ (.slice (some ⟨gg, 0, none⟩) (m + 1) cap)) f ss' ∧ NumAt (w9.setCell ⟨f, 0, none⟩ (.slice (some ⟨gg, 0, none⟩) (m + 1) cap)) f A l ∧ Below f w (w9.setCell ⟨f, 0, none⟩ (.slice (some ⟨gg, 0, none⟩) (m + 1) cap)) := by
  subst hs hm hu
  have hlt : f < wr.heap.size := h.lt
  have hsz : wr.heap.size ≤ w7.heap.size := hb.size
  have hb' : Below wr.heap.size wr w7 := ⟨hb.os, hb.tape, hb.output, hb.size, hb.block⟩
  have ho7 := (own_below ho hb').alloc (.cells #[.string x] 9)
  refine ⟨⟨_, (fblk h ho hb hg).set_ 0 _, ?_⟩, ?_, ?_⟩
  · rw [List.length_append, List.map_append]
    exact ownsRow_setCell_below ho9 (by show f < f + 1; omega) _
  · have h1 : NumAt (w7.alloc (.cells #[.string x] 9)) f A l := (hN.below hb').below ((Below.refl _ _).alloc (Nat.le_refl _) _)
    have h2 : NumAt w9 f A l := h1.grown hg (fun g e => Or.inr ⟨by have := own_ge ho e; omega, own_type ho7 e⟩)
    exact h2.grown (grown_set _ _ _ _) (fun g e => Or.inl (by cases e; rfl))
  · have h1 : Below f w (w7.alloc (.cells #[.string x] 9)) := (hB.trans (hb'.mono (by omega))).alloc (by omega) _
    exact (h1.grown hg (by simp; omega) (fun g e => by have := own_ge ho e; omega)).setCell (by exact Nat.le_refl _) _
set_option maxRecDepth 100000 in
set_option maxHeartbeats 3200000 in
theorem add_any (f : Nat) (ss : List ByteArray) (A : Option Addr) (c : Nat) (l : List Int) (w : World) (he : Env w) (hf8 : 8 ≤ f) (hF : FldR w f ss) (hN : NumAt w f A l) (hl : ∀ z ∈ l, -9223372036854775808 ≤ z ∧ z ≤ 9223372036854775807) (hlen : ss.length + l.length ≤ 1000) :
    Calls Tryz.prog 60 #[.pointer (some ⟨f, 0, none⟩), .slice A l.length c] w fun en w' => en = .returned (.tuple #[]) ∧ FldR w' f (ss ++ l.map itoaB) ∧ Below f w w' := by
  have HI := Lib.hid (info_parts infoS)
  obtain ⟨n, hn⟩ : ∃ n, l.length = n := ⟨_, rfl⟩
  have HLN := Lib.hid hn
  rw [hn] at hlen ⊢
  clear hn
  have HL := Lib.hid hl; clear hl
  have HE := Lib.hid he; clear he
  have HF := Lib.hid hF; clear hF
  have HN := Lib.hid hN; clear hN
  go_enter Tryz.func60, Tryz.ntmps60
  go_wp2_with fail
  go_loopw [8] (fun i wr => ∃ k : Nat, k ≤ n ∧ i = .int .i64 k ∧ FldR wr f (ss ++ (l.take k).map itoaB) ∧ NumAt wr f A l ∧ Below f w wr) (fun i _ => n - (intOf i).toNat)
  case atStart => exact ⟨0, Nat.zero_le _, rfl, by simpa using HF.out, HN.out, Below.refl _ _⟩
  case round =>
    obtain ⟨k, hk, rfl, hFr, hNr, hB⟩ := hrel
    clear HF HN
    have HFr := Lib.hid hFr; clear hFr
    have HNr := Lib.hid hNr; clear hNr
    have HB := Lib.hid hB; clear hB
    by_cases hlt : k < n
    · have hkl : k < l.length := by rw [HLN.out]; exact hlt
      obtain ⟨ad, hA, hab, hcell⟩ := HNr.out k hkl
      subst hA
      clear hab
      obtain ⟨v, hb1, ho⟩ := HFr.out
      have hrange := HL.out l[k] (List.getElem_mem hkl)
      have HTK := Lib.hid (show (l.take (k + 1)).map itoaB = (l.take k).map itoaB ++ [itoaB l[k]] by rw [← List.take_append_getElem hkl, List.map_append]; rfl)
      generalize l[k] = z at *
      have HW := Lib.hid (HE.out.below HB.out hf8)
      have hc0 : wr.cell? ⟨f, 0, none⟩ = some v := hb1.cell 0
      have hfr := hb1.frozen
      have hltf := hb1.lt
      have HO := Lib.hid ho; clear ho
      have HBk := Lib.hid hb1; clear hb1
      have HIt := Lib.hid (fun W he => itoa_any z hrange.1 hrange.2 W he)
      go_wp2_with fail
      have HOW := Lib.hid (fun (W : World) (hb : Below wr.drew.heap.size wr.drew W) => own_below (show wr.drew.ownsRow (f + 1) 9 1 v _ _ from HO.out) hb)
      have HLE := Lib.hid (show (ss ++ (l.take k).map itoaB).length + 1 ≤ 1000 by rw [List.length_append, List.length_map, List.length_take]; omega)
      obtain ⟨m, hm⟩ : ∃ m, (ss ++ (l.take k).map itoaB).length = m := ⟨_, rfl⟩
      obtain ⟨us, hus⟩ : ∃ us, (ss ++ (l.take k).map itoaB).map Value.string = us := ⟨_, rfl⟩
      rw [hm, hus] at HO HOW
      rw [hm] at HLE
      have HM := Lib.hid hm; clear hm
      have HU := Lib.hid hus; clear hus
      obtain ⟨i0, hi⟩ := HI.out
      have HII := Lib.hid hi; clear hi
      have M1 := Lib.hid (show m + 1 ≤ maxLen by have := HLE.out; unfold maxLen; omega)
      have M2 := Lib.hid (show (m + 1) * 16 ≤ 140737488355328 by have := HLE.out; omega)
      have M3 := Lib.hid (fun (W : World) (hb : Below wr.drew.heap.size wr.drew W) => show f + 1 ≤ (W.alloc (.cells #[.string (itoaB z)] 9)).heap.size from by have := hb.size; have h2 : wr.drew.heap.size = wr.heap.size := rfl; simp; omega)
      go_region_law (first
        | (refine step_append_lies _ (by rfl) (.tmp 15) (.tmp 18) 94 (by rfl) (f + 1) 9 i0 _ 1 16 Tryz.underlying94 HII.out.1 HII.out.2.1 HII.out.2.2.1 HII.out.2.2.2 rfl (by omega) v m us (by rfl) ((HOW.out w7 HB7.out).alloc _) ⟨w7.heap.size, 0, none⟩ 1 1 [.string (itoaB z)] (by rfl) (by rfl) (World.news_of_block (cs := #[.string (itoaB z)]) (t := 9) (fr := (0, 0)) (heap_alloc_new w7 _)) (by simp [Value.oneCell']) (by omega) M1.out M2.out (M3.out w7 HB7.out) (w7.heap.size + 1) (by simp) ?_; intro gg cap w9 hown9 hgrow9 hat9 hlt9; have hk9 : w9.cell? ⟨f, 0, none⟩ = some v := hk9' HBk.out HO.out HB7.out hgrow9; have hfr9 : ∀ i, w9.frozen? ⟨f, i, none⟩ = false := hf9' HBk.out HO.out HB7.out hgrow9)
        | (go_simp; go_at_call 78; refine (HIt.out wr.drew HW.out).mono ?_; rintro en w7 ⟨rfl, hb7⟩; have hk7 : w7.cell? ⟨f, 0, none⟩ = some v := (hb7.cell (p := ⟨f, 0, none⟩) hltf).trans hc0; have hl7 : f < w7.heap.size := Nat.lt_of_lt_of_le hltf hb7.size; have HB7 := Lib.hid hb7; clear hb7))
      all_goals
        have HST := Lib.hid (add_step (x := itoaB z) HM.out HU.out (show ss ++ (l.take (k + 1)).map itoaB = (ss ++ (l.take k).map itoaB) ++ [itoaB z] by rw [HTK.out, List.append_assoc]) HBk.out HO.out HNr.out HB.out HB7.out hgrow9 hown9)
        clear hgrow9 hown9 hat9 hlt9 hk9 hfr9 hk7 hl7 hc0 hfr hcell
        go_wp2_with fail
        go_roundw
        case rel => exact ⟨k + 1, by omega, by go_num, HST.out.1, HST.out.2.1, HST.out.2.2⟩
        case measure => simp [intOf]; omega
    · obtain rfl : k = n := by omega
      have HFn := Lib.hid (show FldR wr f (ss ++ l.map itoaB) by have := HFr.out; rw [List.take_of_length_le (by rw [HLN.out]; exact Nat.le_refl _)] at this; exact this)
      go_wp2_with fail
      go_end0
      exact ⟨rfl, HFn.out, HB.out⟩
end Go.Proofs.YteeekdffbcbamaaGreatDoor
/-
  PLAIN: the error of a sentence.
-/
namespace Go.Proofs.YteeekdffbcbamaaGreatDoor.Plain

def inR (n lo hi : Int) : Bool := decide (lo ≤ n) && decide (n ≤ hi)
theorem inR_yes {n lo hi : Int} (h : inR n lo hi = true) : lo ≤ n ∧ n ≤ hi := by
  unfold inR at h
  simpa using h
theorem inR_no {n lo hi : Int} (h : inR n lo hi = false) : n < lo ∨ hi < n := by
  unfold inR at h
  simp at h
  omega
/-- The error of the numbers of satellites behind last. -/
def prnsE : Int → List Int → Int
  | _, [] => 0
  | last, p :: r => if inR p 1 63 = false then 2 else if p ≤ last then 9 else prnsE p r
def pos (x : Sn) (k : Nat) : Int := if k = 0 then x.p0 else if k = 1 then x.p1 else x.p2
def lev (x : Sn) (k : Nat) : Int := if k = 0 then x.l0 else if k = 1 then x.l1 else x.l2
def levB (x : Sn) (k : Nat) : Bool := inR (pos x k) (-10000000000000) 10000000000000 && inR (lev x k) 0 10000000000000
def levelB (x : Sn) : Bool := levB x 0 && levB x 1 && levB x 2
theorem levelB_no {x : Sn} {k : Nat} (hk : k < 3) (h : levB x k = false) : levelB x = false := by
  unfold levelB
  have : k = 0 ∨ k = 1 ∨ k = 2 := by omega
  rcases this with rfl | rfl | rfl <;> simp [h]
theorem levelB_yes {x : Sn} (h : ∀ j, j < 3 → levB x j = true) : levelB x = true := by
  unfold levelB
  simp [h 0 (by omega), h 1 (by omega), h 2 (by omega)]
def fixE (x : Sn) : Int := if levelB x = false then 2 else if 16 < x.prns.length then 4 else prnsE 0 x.prns
def chanE (x : Sn) : Int := if (inR x.prn 1 63 && inR x.lag 0 8191 && inR x.power 0 1000000000000000000) = false then 2 else 0
/-- No fields that a fix, a channel, a text does not have. -/
def fixOnly (x : Sn) : Prop := x.prn = 0 ∧ x.lag = 0 ∧ x.power = 0 ∧ x.text.data.toList = []
def chanOnly (x : Sn) : Prop := x.p0 = 0 ∧ x.p1 = 0 ∧ x.p2 = 0 ∧ x.l0 = 0 ∧ x.l1 = 0 ∧ x.l2 = 0 ∧ x.prns = [] ∧ x.text.data.toList = []
def textOnly (x : Sn) : Prop := x.ok = false ∧ x.p0 = 0 ∧ x.p1 = 0 ∧ x.p2 = 0 ∧ x.l0 = 0 ∧ x.l1 = 0 ∧ x.l2 = 0 ∧ x.prns = [] ∧ x.prn = 0 ∧ x.lag = 0 ∧ x.power = 0
open Classical in
/-- The error of a sentence. -/
noncomputable def checkE (x : Sn) : Int :=
  if x.kind ≠ 1 ∧ x.kind ≠ 2 ∧ x.kind ≠ 3 then 3
  else if inR x.time 0 604799999 = false then 2
  else if x.kind = 1 then (if fixOnly x then fixE x else 3)
  else if x.kind = 2 then (if chanOnly x then chanE x else 3)
  else (if textOnly x then textE x.text.data.toList else 3)
/-- The number of a satellite ahead of place k, 0 if none. -/
def lastP (l : List Int) (k : Nat) : Int := if k = 0 then 0 else l[k - 1]?.getD 0
theorem prnsE_step {l : List Int} {k : Nat} (hk : k < l.length) : prnsE (lastP l k) (l.drop k) = if inR l[k] 1 63 = false then 2 else if l[k] ≤ lastP l k then 9 else prnsE (lastP l (k + 1)) (l.drop (k + 1)) := by
  rw [List.drop_eq_getElem_cons hk]
  have : lastP l (k + 1) = l[k] := by
    unfold lastP
    rw [if_neg (by omega), Nat.add_sub_cancel, List.getElem?_eq_getElem hk]
    rfl
  rw [this]
  rfl
theorem lastP_succ {l : List Int} {k : Nat} (hk : 0 < k) (hl : k - 1 < l.length) : lastP l k = l[k - 1] := by
  unfold lastP
  rw [if_neg (by omega), List.getElem?_eq_getElem hl]
  rfl
theorem checkE_kind {x : Sn} (h : x.kind ≠ 1 ∧ x.kind ≠ 2 ∧ x.kind ≠ 3) : checkE x = 3 := by unfold checkE; rw [if_pos h]
theorem checkE_time {x : Sn} (h : x.kind = 1 ∨ x.kind = 2 ∨ x.kind = 3) (ht : inR x.time 0 604799999 = false) : checkE x = 2 := by
  unfold checkE
  rw [if_neg (by omega), if_pos ht]
theorem checkE_1 {x : Sn} (h : x.kind = 1) (ht : inR x.time 0 604799999 = true) : (fixOnly x → checkE x = fixE x) ∧ (¬ fixOnly x → checkE x = 3) := by
  unfold checkE
  rw [if_neg (by omega), if_neg (by rw [ht]; decide), if_pos h]
  exact ⟨fun h => if_pos h, fun h => if_neg h⟩
theorem checkE_2 {x : Sn} (h : x.kind = 2) (ht : inR x.time 0 604799999 = true) : (chanOnly x → checkE x = chanE x) ∧ (¬ chanOnly x → checkE x = 3) := by
  unfold checkE
  rw [if_neg (by omega), if_neg (by rw [ht]; decide), if_neg (by omega), if_pos h]
  exact ⟨fun h => if_pos h, fun h => if_neg h⟩
theorem checkE_3 {x : Sn} (h : x.kind = 3) (ht : inR x.time 0 604799999 = true) : (textOnly x → checkE x = textE x.text.data.toList) ∧ (¬ textOnly x → checkE x = 3) := by
  unfold checkE
  rw [if_neg (by omega), if_neg (by rw [ht]; decide), if_neg (by omega), if_neg (by omega)]
  exact ⟨fun h => if_pos h, fun h => if_neg h⟩
theorem prnsE_range {last : Int} : ∀ {l : List Int}, prnsE last l = 0 → ∀ z ∈ l, 1 ≤ z ∧ z ≤ 63
  | [], _, z, hz => by simp at hz
  | p :: r, h, z, hz => by
    unfold prnsE at h
    by_cases h1 : inR p 1 63 = false
    · rw [if_pos h1] at h; cases h
    · rw [if_neg h1] at h
      by_cases h2 : p ≤ last
      · rw [if_pos h2] at h; cases h
      · rw [if_neg h2] at h
        rcases List.mem_cons.1 hz with rfl | hz
        · exact inR_yes (by simpa using h1)
        · exact prnsE_range h z hz
end Go.Proofs.YteeekdffbcbamaaGreatDoor.Plain
