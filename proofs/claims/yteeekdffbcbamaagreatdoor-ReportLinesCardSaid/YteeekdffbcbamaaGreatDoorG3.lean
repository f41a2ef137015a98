/-
  PLAIN: where a reader stands, and what a field and a number do to it.
-/
import Derived.Test.YteeekdffbcbamaaGreatDoorG1
import Derived.Test.YteeekdffbcbamaaGreatDoorNumberG
namespace Go.Proofs.YteeekdffbcbamaaGreatDoor.Plain

/-- Where a reader stands: where it reads, whether there are more fields, the fault. -/
structure St where
  pos : Nat
  more : Bool
  er : Int
  ea : Int
/-- It stays within the fields. -/
def okSt (e : Nat) (st : St) : Prop := st.more = true → st.pos ≤ e
/-- What the next field is. -/
def fldF (s : ByteArray) (e : Nat) (st : St) : ByteArray := s.extract st.pos (st.pos + fldN s st.pos e)
/-- The next field as it is returned. -/
def fldS (s : ByteArray) (e : Nat) (st : St) : ByteArray := if st.er ≠ 0 then ⟨#[]⟩ else if st.more = true then fldF s e st else ⟨#[]⟩
/-- Behind the next field. -/
def fldSt (s : ByteArray) (e : Nat) (st : St) : St :=
  if st.er ≠ 0 then st else if st.more = true then ⟨st.pos + fldN s st.pos e + 1, decide (st.pos + fldN s st.pos e < e), 0, st.ea⟩ else ⟨st.pos, st.more, 11, e⟩
/-- A fault is noted. -/
def failSt (st : St) (c z : Int) : St := if st.er ≠ 0 then st else ⟨st.pos, st.more, c, z⟩
/-- The error of the next number. -/
def numR (s : ByteArray) (e : Nat) (st : St) (lo hi wr : Int) : Int := numE (fldF s e st).data.toList lo hi wr
/-- Behind the next number. -/
def numSt (s : ByteArray) (e : Nat) (st : St) (lo hi wr : Int) : St :=
  if st.er ≠ 0 then st else if st.more = true then
    ⟨st.pos + fldN s st.pos e + 1, decide (st.pos + fldN s st.pos e < e), numR s e st lo hi wr, if numR s e st lo hi wr = 0 then st.ea else st.pos⟩
  else ⟨st.pos, st.more, 11, e⟩
/-- The next number, where it is right. -/
def numO (s : ByteArray) (e : Nat) (st : St) : Int := numV (fldF s e st).data.toList

theorem okSt_fld {s : ByteArray} {e : Nat} {st : St} (h : okSt e st) : okSt e (fldSt s e st) := by
  unfold fldSt
  by_cases h1 : st.er ≠ 0
  · rw [if_pos h1]; exact h
  · rw [if_neg h1]
    by_cases h2 : st.more = true
    · rw [if_pos h2]
      intro hm
      have : st.pos + fldN s st.pos e < e := by simpa using hm
      show st.pos + fldN s st.pos e + 1 ≤ e
      omega
    · rw [if_neg h2]; exact h
theorem okSt_num {s : ByteArray} {e : Nat} {st : St} {lo hi wr : Int} (h : okSt e st) : okSt e (numSt s e st lo hi wr) := by
  unfold numSt
  by_cases h1 : st.er ≠ 0
  · rw [if_pos h1]; exact h
  · rw [if_neg h1]
    by_cases h2 : st.more = true
    · rw [if_pos h2]
      intro hm
      have : st.pos + fldN s st.pos e < e := by simpa using hm
      show st.pos + fldN s st.pos e + 1 ≤ e
      omega
    · rw [if_neg h2]; exact h
theorem okSt_fail {e : Nat} {st : St} {c z : Int} (h : okSt e st) : okSt e (failSt st c z) := by
  unfold failSt
  by_cases h1 : st.er ≠ 0
  · rw [if_pos h1]; exact h
  · rw [if_neg h1]; exact h
/-- A number that went right: what it lies in. -/
theorem num_range {s : ByteArray} {e : Nat} {st : St} {lo hi wr : Int} (hw : wr ≠ 0) (h : (numSt s e st lo hi wr).er = 0) :
    st.er = 0 ∧ st.more = true ∧ badB (fldF s e st).data.toList = false ∧ lo ≤ numO s e st ∧ numO s e st ≤ hi := by
  unfold numSt at h
  by_cases h1 : st.er ≠ 0
  · rw [if_pos h1] at h; exact absurd h h1
  · rw [if_neg h1] at h
    by_cases h2 : st.more = true
    · rw [if_pos h2] at h
      have h3 : numR s e st lo hi wr = 0 := h
      unfold numR numE at h3
      unfold numO
      cases hb : badB (fldF s e st).data.toList
      · rw [hb] at h3
        simp only [Bool.false_eq_true, if_false] at h3
        by_cases c1 : numV (fldF s e st).data.toList < lo
        · rw [if_pos c1] at h3; cases h3
        · rw [if_neg c1] at h3
          by_cases c2 : hi < numV (fldF s e st).data.toList
          · rw [if_pos c2] at h3; exact absurd h3 hw
          · exact ⟨by simpa using h1, h2, rfl, by omega, by omega⟩
      · rw [hb] at h3; cases h3
    · rw [if_neg h2] at h; cases h
/-- Behind a text. -/
def textSt (s : ByteArray) (e : Nat) (st : St) : St :=
  if textE (fldS s e st).data.toList = 0 then fldSt s e st else failSt (fldSt s e st) (textE (fldS s e st).data.toList) st.pos
/-- Behind the numbers of a channel. -/
def chan1 (s : ByteArray) (e : Nat) (st : St) : St := numSt s e st 0 1 2
def chan2 (s : ByteArray) (e : Nat) (st : St) : St := numSt s e (chan1 s e st) 1 63 2
def chan3 (s : ByteArray) (e : Nat) (st : St) : St := numSt s e (chan2 s e st) 0 8191 2
def chan4 (s : ByteArray) (e : Nat) (st : St) : St := numSt s e (chan3 s e st) 0 1000000000000000000 2
theorem num_er {s : ByteArray} {e : Nat} {st : St} {lo hi wr : Int} (h : (numSt s e st lo hi wr).er = 0) : st.er = 0 := by
  unfold numSt at h
  by_cases h1 : st.er ≠ 0
  · rw [if_pos h1] at h; exact h
  · simpa using h1
theorem okSt_text {s : ByteArray} {e : Nat} {st : St} (h : okSt e st) : okSt e (textSt s e st) := by
  unfold textSt
  split
  · exact okSt_fld h
  · exact okSt_fail (okSt_fld h)
end Go.Proofs.YteeekdffbcbamaaGreatDoor.Plain
/-
  WALKS, joined: fail, field and number of package report on where a reader stands.
-/
namespace Go.Proofs.YteeekdffbcbamaaGreatDoor
open Go.RowKit

/-- The block b is a reader that stands at st. -/
def Rs (w : World) (b : Nat) (T : TypeId) (s : ByteArray) (e : Nat) (st : Plain.St) (X : Array Value) : Prop := Rd w b T s st.pos e st.more st.er st.ea X

section
variable (b T : Nat) (s : ByteArray) (e : Nat) (st : Plain.St) (X : Array Value) (w : World)
theorem fail_st (c z : Int) (h : Rs w b T s e st X) :
    Calls Tryz.prog 34 #[.pointer (some ⟨b, 0, none⟩), .int .i64 c, .int .i64 z] w fun en w' => en = .returned (.tuple #[]) ∧ Rs w' b T s e (Plain.failSt st c z) X ∧ w.grownBy w' (some b) := by
  refine (fail_any b T s st.pos e st.more st.er st.ea c z X w h).mono ?_
  rintro en w' ⟨rfl, hr, hg⟩
  refine ⟨rfl, ?_, hg⟩
  unfold Rs Plain.failSt
  by_cases h1 : st.er ≠ 0
  · rw [if_pos h1]
    rw [Plain.fe_no h1, Plain.fa_no h1] at hr
    exact hr
  · have h0 : st.er = 0 := by simpa using h1
    rw [if_neg h1]
    rw [h0, Plain.fe_zero, Plain.fa_zero] at hr
    exact hr
theorem field_st (h : Rs w b T s e st X) (ok : Plain.okSt e st) (hs : s.size ≤ 1000000) (hes : e ≤ s.size) :
    Calls Tryz.prog 31 #[.pointer (some ⟨b, 0, none⟩)] w fun en w' => en = .returned (.tuple #[.string (Plain.fldS s e st), .int .i64 st.pos]) ∧ Rs w' b T s e (Plain.fldSt s e st) X ∧ w.grownBy w' (some b) := by
  unfold Rs Plain.fldS Plain.fldSt at *
  by_cases h1 : st.er ≠ 0
  · rw [if_pos h1, if_pos h1]
    exact field_er b T s st.pos e st.er st.ea X w st.more h h1
  · have h0 : st.er = 0 := by simpa using h1
    rw [if_neg h1, if_neg h1]
    rw [h0] at h
    by_cases h2 : st.more = true
    · rw [if_pos h2, if_pos h2]
      rw [h2] at h
      exact field_ok b T s st.pos e st.ea X w h hs (ok h2) hes _ rfl _ rfl
    · rw [if_neg h2, if_neg h2]
      have h3 : st.more = false := by simpa using h2
      rw [h3] at h ⊢
      exact field_end b T s st.pos e st.ea X w h
theorem number_st (lo hi wr : Int) (h : Rs w b T s e st X) (ok : Plain.okSt e st) (hs : s.size ≤ 1000000) (hes : e ≤ s.size)
    (hlo : -1000000000000000000 ≤ lo) (hlh : lo ≤ hi) (hhi : hi ≤ 1000000000000000000) (hwr : wr ≠ 0) (te : TypeId) (pe : Value) (hV : w.cell? ⟨2, 0, none⟩ = some (.iface te pe)) (hbE : 2 < b) :
    Calls Tryz.prog 33 #[.pointer (some ⟨b, 0, none⟩), .int .i64 lo, .int .i64 hi, .int .i64 wr] w fun en w' => ∃ z, en = .returned (.int .i64 z) ∧ ((Plain.numSt s e st lo hi wr).er = 0 → z = Plain.numO s e st) ∧ Rs w' b T s e (Plain.numSt s e st lo hi wr) X ∧ w.grownBy w' (some b) := by
  unfold Rs Plain.numSt at *
  by_cases h1 : st.er ≠ 0
  · rw [if_pos h1]
    refine (number_er b T s st.pos e st.er st.ea X w lo hi wr st.more h h1).mono ?_
    rintro en w' ⟨rfl, hr, hg⟩
    exact ⟨0, rfl, fun h0 => absurd h0 h1, hr, hg⟩
  · have h0 : st.er = 0 := by simpa using h1
    rw [if_neg h1]
    rw [h0] at h
    by_cases h2 : st.more = true
    · rw [if_pos h2]
      rw [h2] at h
      cases hb : Plain.badB (Plain.fldF s e st).data.toList
      · refine (number_good b T s st.pos e st.ea X w lo hi wr h hs (ok h2) hes _ rfl _ rfl _ rfl hb hlo hlh hhi hwr te pe hV hbE _ rfl).mono ?_
        rintro en w' ⟨z, rfl, hz, hr, hg⟩
        exact ⟨z, rfl, hz, hr, hg⟩
      · refine (number_bad b T s st.pos e st.ea X w lo hi wr h hs (ok h2) hes _ rfl _ rfl _ rfl hb).mono ?_
        rintro en w' ⟨rfl, hr, hg⟩
        have hE : Plain.numR s e st lo hi wr = 11 := by
          unfold Plain.numR Plain.numE
          rw [hb]
          rfl
        rw [hE]
        exact ⟨0, rfl, (fun h0 => by cases h0), hr, hg⟩
    · rw [if_neg h2]
      have h3 : st.more = false := by simpa using h2
      rw [h3] at h ⊢
      refine (number_end b T s st.pos e st.ea X w lo hi wr h).mono ?_
      rintro en w' ⟨rfl, hr, hg⟩
      exact ⟨0, rfl, (fun h0 => by cases h0), hr, hg⟩
end
end Go.Proofs.YteeekdffbcbamaaGreatDoor
/-
  WALKS: what reads a text and a channel (package report).
-/
namespace Go.Proofs.YteeekdffbcbamaaGreatDoor
open Go.RowKit

theorem size_get {X : Array Value} {k : Nat} (h : X.size = k) (i : Nat) (hi : i < k) : ∃ v, X[i]? = some v := by
  subst h
  exact ⟨X[i], Array.getElem?_eq_getElem hi⟩
theorem size_set {X : Array Value} {k : Nat} (h : X.size = k) (i : Nat) (v : Value) : (X.setIfInBounds i v).size = k := by
  rw [Array.size_setIfInBounds, h]

section
variable (b T : Nat) (s : ByteArray) (e : Nat) (st : Plain.St) (X : Array Value) (w : World)
theorem fld_size (hs : s.size ≤ 1000000) : (Plain.fldS s e st).size ≤ 1000000 := by
  unfold Plain.fldS Plain.fldF
  split
  · exact Nat.zero_le _
  · split
    · rw [ByteArray.size_extract]; omega
    · exact Nat.zero_le _
theorem text_st (h : Rs w b T s e st X) (ok : Plain.okSt e st) (hs : s.size ≤ 1000000) (hes : e ≤ s.size) (hX : X.size = 14) :
    Calls Tryz.prog 55 #[.pointer (some ⟨b, 0, none⟩)] w fun en w' => en = .returned (.tuple #[]) ∧ Rs w' b T s e (Plain.textSt s e st) (X.setIfInBounds 13 (.string (Plain.fldS s e st))) ∧ w.grownBy w' (some b) := by
  have HF := Lib.hid (field_st b T s e st X w h ok hs hes)
  have HFl := Lib.hid (fun W c z (h : Rs W b T s e (Plain.fldSt s e st) X) => fail_st b T s e (Plain.fldSt s e st) X W c z h)
  have hF := fld_size s e st hs
  have HTx := Lib.hid (fun W r hr => texted_any (Plain.fldS s e st) W hF r hr)
  obtain ⟨r, hr⟩ : ∃ r, Plain.textE (Plain.fldS s e st).data.toList = r := ⟨_, rfl⟩
  have hts : Plain.textSt s e st = if r = 0 then Plain.fldSt s e st else Plain.failSt (Plain.fldSt s e st) r st.pos := by
    unfold Plain.textSt; rw [hr]
  rw [hts]
  have HR := Lib.hid hr; clear hr hts
  obtain ⟨v, hv⟩ := size_get hX 13 (by omega)
  have HX := Lib.hid hv; clear hv
  generalize Plain.fldS s e st = F at *
  generalize Plain.fldSt s e st = st1 at *
  clear h ok
  by_cases h0 : r = 0
  · rw [if_pos h0]
    subst h0
    go_enter Tryz.func55, Tryz.ntmps55
    go_wp2_with fail
    refine HF.out.mono ?_
    rintro en w1 ⟨rfl, hr1, hg1⟩
    have HR1 := Lib.hid hr1; clear hr1
    have HG1 := Lib.hid hg1; clear hg1
    go_wp2_with fail
    refine (HTx.out _ _ HR.out).mono ?_
    rintro en w2 ⟨rfl, rfl⟩
    have c1 : w1.cell? ⟨b, 19, none⟩ = some v := HR1.out.x 13 v HX.out
    have hfr := HR1.out.frozen
    go_wp2_with fail
    go_end0
    exact ⟨rfl, HR1.out.setX 13 _, grown_trans HG1.out (grown_set _ _ _ _)⟩
  · rw [if_neg h0]
    have h0' : (r != 0) = true := by simpa using h0
    go_enter Tryz.func55, Tryz.ntmps55
    go_wp2_with fail
    refine HF.out.mono ?_
    rintro en w1 ⟨rfl, hr1, hg1⟩
    have HR1 := Lib.hid hr1; clear hr1
    have HG1 := Lib.hid hg1; clear hg1
    go_wp2_with fail
    refine (HTx.out _ _ HR.out).mono ?_
    rintro en w2 ⟨rfl, rfl⟩
    go_wp2_with fail
    refine (HFl.out _ _ _ HR1.out).mono ?_
    rintro en w2 ⟨rfl, hr2, hg2⟩
    have HR2 := Lib.hid hr2; clear hr2
    have HG2 := Lib.hid hg2; clear hg2
    have c1 : w2.cell? ⟨b, 19, none⟩ = some v := HR2.out.x 13 v HX.out
    have hfr := HR2.out.frozen
    go_wp2_with fail
    go_end0
    exact ⟨rfl, HR2.out.setX 13 _, grown_trans (grown_trans HG1.out HG2.out) (grown_set _ _ _ _)⟩
end
end Go.Proofs.YteeekdffbcbamaaGreatDoor
/-
  WALKS: what reads a channel (package report).
-/
namespace Go.Proofs.YteeekdffbcbamaaGreatDoor
open Go.RowKit

/-- What a channel leaves in the sentence's cells. -/
def chanX (X : Array Value) (z1 z2 z3 z4 : Int) : Array Value :=
  (((X.setIfInBounds 2 (.bool (z1 == 1))).setIfInBounds 10 (.int .i64 z2)).setIfInBounds 11 (.int .i64 z3)).setIfInBounds 12 (.int .i64 z4)
theorem chanX_size {X : Array Value} {z1 z2 z3 z4 : Int} (h : X.size = 14) : (chanX X z1 z2 z3 z4).size = 14 := by
  unfold chanX
  simp [h]
theorem channel_st (b T : Nat) (s : ByteArray) (e : Nat) (st : Plain.St) (X : Array Value) (w : World) (h : Rs w b T s e st X) (ok : Plain.okSt e st) (hs : s.size ≤ 1000000) (hes : e ≤ s.size) (hX : X.size = 14)
    (te : TypeId) (pe : Value) (hV : w.cell? ⟨2, 0, none⟩ = some (.iface te pe)) (hbE : 2 < b) :
    Calls Tryz.prog 54 #[.pointer (some ⟨b, 0, none⟩)] w fun en w' => en = .returned (.tuple #[]) ∧ (∃ z1 z2 z3 z4, ((Plain.chan4 s e st).er = 0 → z1 = Plain.numO s e st ∧ z2 = Plain.numO s e (Plain.chan1 s e st) ∧ z3 = Plain.numO s e (Plain.chan2 s e st) ∧ z4 = Plain.numO s e (Plain.chan3 s e st)) ∧ Rs w' b T s e (Plain.chan4 s e st) (chanX X z1 z2 z3 z4)) ∧ w.grownBy w' (some b) := by
  have ok1 : Plain.okSt e (Plain.chan1 s e st) := Plain.okSt_num ok
  have ok2 : Plain.okSt e (Plain.chan2 s e st) := Plain.okSt_num ok1
  have ok3 : Plain.okSt e (Plain.chan3 s e st) := Plain.okSt_num ok2
  have H1 := Lib.hid (number_st b T s e st X w 0 1 2 h ok hs hes (by omega) (by omega) (by omega) (by omega) te pe hV hbE)
  have H2 := Lib.hid (fun W Y (h : Rs W b T s e (Plain.chan1 s e st) Y) (hV : W.cell? ⟨2, 0, none⟩ = some (.iface te pe)) => number_st b T s e (Plain.chan1 s e st) Y W 1 63 2 h ok1 hs hes (by omega) (by omega) (by omega) (by omega) te pe hV hbE)
  have H3 := Lib.hid (fun W Y (h : Rs W b T s e (Plain.chan2 s e st) Y) (hV : W.cell? ⟨2, 0, none⟩ = some (.iface te pe)) => number_st b T s e (Plain.chan2 s e st) Y W 0 8191 2 h ok2 hs hes (by omega) (by omega) (by omega) (by omega) te pe hV hbE)
  have H4 := Lib.hid (fun W Y (h : Rs W b T s e (Plain.chan3 s e st) Y) (hV : W.cell? ⟨2, 0, none⟩ = some (.iface te pe)) => number_st b T s e (Plain.chan3 s e st) Y W 0 1000000000000000000 2 h ok3 hs hes (by omega) (by omega) (by omega) (by omega) te pe hV hbE)
  have q4 : (Plain.chan4 s e st).er = 0 → (Plain.chan3 s e st).er = 0 := Plain.num_er
  have q3 : (Plain.chan3 s e st).er = 0 → (Plain.chan2 s e st).er = 0 := Plain.num_er
  have q2 : (Plain.chan2 s e st).er = 0 → (Plain.chan1 s e st).er = 0 := Plain.num_er
  change Hid (Calls _ _ _ _ fun en w' => ∃ z, en = .returned (.int .i64 z) ∧ ((Plain.chan1 s e st).er = 0 → z = Plain.numO s e st) ∧ Rs w' b T s e (Plain.chan1 s e st) X ∧ w.grownBy w' (some b)) at H1
  change Hid (∀ (W : World) (Y : Array Value), Rs W b T s e (Plain.chan1 s e st) Y → W.cell? ⟨2, 0, none⟩ = some (.iface te pe) → Calls Tryz.prog 33 #[.pointer (some ⟨b, 0, none⟩), .int .i64 1, .int .i64 63, .int .i64 2] W fun en w' => ∃ z, en = .returned (.int .i64 z) ∧ ((Plain.chan2 s e st).er = 0 → z = Plain.numO s e (Plain.chan1 s e st)) ∧ Rs w' b T s e (Plain.chan2 s e st) Y ∧ W.grownBy w' (some b)) at H2
  change Hid (∀ (W : World) (Y : Array Value), Rs W b T s e (Plain.chan2 s e st) Y → W.cell? ⟨2, 0, none⟩ = some (.iface te pe) → Calls Tryz.prog 33 #[.pointer (some ⟨b, 0, none⟩), .int .i64 0, .int .i64 8191, .int .i64 2] W fun en w' => ∃ z, en = .returned (.int .i64 z) ∧ ((Plain.chan3 s e st).er = 0 → z = Plain.numO s e (Plain.chan2 s e st)) ∧ Rs w' b T s e (Plain.chan3 s e st) Y ∧ W.grownBy w' (some b)) at H3
  change Hid (∀ (W : World) (Y : Array Value), Rs W b T s e (Plain.chan3 s e st) Y → W.cell? ⟨2, 0, none⟩ = some (.iface te pe) → Calls Tryz.prog 33 #[.pointer (some ⟨b, 0, none⟩), .int .i64 0, .int .i64 1000000000000000000, .int .i64 2] W fun en w' => ∃ z, en = .returned (.int .i64 z) ∧ ((Plain.chan4 s e st).er = 0 → z = Plain.numO s e (Plain.chan3 s e st)) ∧ Rs w' b T s e (Plain.chan4 s e st) Y ∧ W.grownBy w' (some b)) at H4
  have HQ := Lib.hid (And.intro q4 (And.intro q3 q2))
  clear q4 q3 q2 ok1 ok2 ok3 ok
  have HV := Lib.hid hV; clear hV
  clear h
  go_enter Tryz.func54, Tryz.ntmps54
  go_wp2_with fail
  refine H1.out.mono ?_
  rintro en w1 ⟨z1, rfl, hz1, hr1, hg1⟩
  have HR1 := Lib.hid hr1; clear hr1
  have HG1 := Lib.hid hg1; clear hg1
  have HZ1 := Lib.hid hz1; clear hz1
  have HV1 := Lib.hid (HG1.out.cell HV.out (by simp; omega))
  obtain ⟨v1, hv1⟩ := size_get hX 2 (by omega)
  have c1 : w1.cell? ⟨b, 8, none⟩ = some v1 := HR1.out.x 2 v1 hv1
  clear hv1
  have hfr := HR1.out.frozen
  go_wp2_with fail
  refine (H2.out _ _ (HR1.out.setX 2 _) ((grown_set _ _ _ _).cell HV1.out (by simp; omega))).mono ?_
  rintro en w2 ⟨z2, rfl, hz2, hr2, hg2⟩
  have HR2 := Lib.hid hr2; clear hr2
  have HG2 := Lib.hid (grown_trans HG1.out (grown_trans (grown_set _ _ _ _) hg2)); clear hg2
  have HZ2 := Lib.hid hz2; clear hz2
  have HV2 := Lib.hid (HG2.out.cell HV.out (by simp; omega))
  clear c1 hfr
  obtain ⟨v2, hv2⟩ := size_get (size_set hX 2 (.bool (z1 == 1))) 10 (by omega)
  have c2 : w2.cell? ⟨b, 16, none⟩ = some v2 := HR2.out.x 10 v2 hv2
  clear hv2
  have hfr := HR2.out.frozen
  go_wp2_with fail
  refine (H3.out _ _ (HR2.out.setX 10 _) ((grown_set _ _ _ _).cell HV2.out (by simp; omega))).mono ?_
  rintro en w3 ⟨z3, rfl, hz3, hr3, hg3⟩
  have HR3 := Lib.hid hr3; clear hr3
  have HG3 := Lib.hid (grown_trans HG2.out (grown_trans (grown_set _ _ _ _) hg3)); clear hg3
  have HZ3 := Lib.hid hz3; clear hz3
  have HV3 := Lib.hid (HG3.out.cell HV.out (by simp; omega))
  clear c2 hfr
  obtain ⟨v3, hv3⟩ := size_get (size_set (size_set hX 2 (.bool (z1 == 1))) 10 (.int .i64 z2)) 11 (by omega)
  have c3 : w3.cell? ⟨b, 17, none⟩ = some v3 := HR3.out.x 11 v3 hv3
  clear hv3
  have hfr := HR3.out.frozen
  go_wp2_with fail
  refine (H4.out _ _ (HR3.out.setX 11 _) ((grown_set _ _ _ _).cell HV3.out (by simp; omega))).mono ?_
  rintro en w4 ⟨z4, rfl, hz4, hr4, hg4⟩
  have HR4 := Lib.hid hr4; clear hr4
  have HG4 := Lib.hid (grown_trans HG3.out (grown_trans (grown_set _ _ _ _) hg4)); clear hg4
  have HZ4 := Lib.hid hz4; clear hz4
  clear c3 hfr
  obtain ⟨v4, hv4⟩ := size_get (size_set (size_set (size_set hX 2 (.bool (z1 == 1))) 10 (.int .i64 z2)) 11 (.int .i64 z3)) 12 (by omega)
  have c4 : w4.cell? ⟨b, 18, none⟩ = some v4 := HR4.out.x 12 v4 hv4
  clear hv4
  have hfr := HR4.out.frozen
  go_wp2_with fail
  go_end0
  refine ⟨rfl, ⟨z1, z2, z3, z4, fun h4 => ?_, HR4.out.setX 12 _⟩, grown_trans HG4.out (grown_set _ _ _ _)⟩
  obtain ⟨q4, q3, q2⟩ := HQ.out
  exact ⟨HZ1.out (q2 (q3 (q4 h4))), HZ2.out (q3 (q4 h4)), HZ3.out (q4 h4), HZ4.out h4⟩
end Go.Proofs.YteeekdffbcbamaaGreatDoor
/-
  PLAIN: what the numbers of a fix do to a reader.
-/
namespace Go.Proofs.YteeekdffbcbamaaGreatDoor.Plain

/-- The bounds of the numbers of a fix, behind its time. -/
def fixB (j : Nat) : Int × Int × Int :=
  if j = 0 then (0, 1, 2) else if j ≤ 3 then (-10000000000000, 10000000000000, 2) else if j ≤ 6 then (0, 10000000000000, 2) else (0, 16, 4)
def fixSt (s : ByteArray) (e : Nat) (st : St) : Nat → St
  | 0 => st
  | j + 1 => numSt s e (fixSt s e st j) (fixB j).1 (fixB j).2.1 (fixB j).2.2
/-- One number of a satellite more. -/
def prnSt1 (s : ByteArray) (e : Nat) (last : Int) (st : St) : St :=
  if numO s e st ≤ last then failSt (numSt s e st 1 63 2) 9 st.pos else numSt s e st 1 63 2
def prnSt (s : ByteArray) (e : Nat) : Nat → Int → St → St
  | 0, _, st => st
  | k + 1, last, st => if st.er ≠ 0 then st else prnSt s e k (numO s e st) (prnSt1 s e last st)
def prnL (s : ByteArray) (e : Nat) : Nat → Int → St → List Int
  | 0, _, _ => []
  | k + 1, last, st => if st.er ≠ 0 then [] else numO s e st :: prnL s e k (numO s e st) (prnSt1 s e last st)
def fixMany (s : ByteArray) (e : Nat) (st : St) : Nat := (numO s e (fixSt s e st 7)).toNat
def fixEnd (s : ByteArray) (e : Nat) (st : St) : St := prnSt s e (fixMany s e st) 0 (fixSt s e st 8)
def fixL (s : ByteArray) (e : Nat) (st : St) : List Int := prnL s e (fixMany s e st) 0 (fixSt s e st 8)

theorem fixB_ok (j : Nat) : -1000000000000000000 ≤ (fixB j).1 ∧ (fixB j).1 ≤ (fixB j).2.1 ∧ (fixB j).2.1 ≤ 1000000000000000000 ∧ (fixB j).2.2 ≠ 0 := by
  unfold fixB
  split
  · decide
  · split
    · decide
    · split <;> decide
theorem okSt_fix {s : ByteArray} {e : Nat} {st : St} (h : okSt e st) : ∀ j, okSt e (fixSt s e st j)
  | 0 => h
  | j + 1 => okSt_num (okSt_fix h j)
theorem fail_er {st : St} {c z : Int} (hc : c ≠ 0) (h : (failSt st c z).er = 0) : False := by
  unfold failSt at h
  by_cases h1 : st.er ≠ 0
  · rw [if_pos h1] at h; exact h1 h
  · rw [if_neg h1] at h; exact hc h
theorem fail_no {st : St} {c z : Int} (h : st.er ≠ 0) : failSt st c z = st := by
  unfold failSt
  rw [if_pos h]
theorem okSt_prn1 {s : ByteArray} {e : Nat} {last : Int} {st : St} (h : okSt e st) : okSt e (prnSt1 s e last st) := by
  unfold prnSt1
  split
  · exact okSt_fail (okSt_num h)
  · exact okSt_num h
theorem prn1_of {s : ByteArray} {e : Nat} {last z : Int} {st : St} (hz : (numSt s e st 1 63 2).er = 0 → z = numO s e st) :
    prnSt1 s e last st = if z ≤ last then failSt (numSt s e st 1 63 2) 9 st.pos else numSt s e st 1 63 2 := by
  unfold prnSt1
  by_cases h : (numSt s e st 1 63 2).er = 0
  · rw [hz h]
  · rw [fail_no h]
    split <;> split <;> rfl
theorem prnSt_er {s : ByteArray} {e k : Nat} {last : Int} {st : St} (h : st.er ≠ 0) : prnSt s e k last st = st := by
  cases k with
  | zero => rfl
  | succ k => unfold prnSt; rw [if_pos h]
theorem prn1_er {s : ByteArray} {e : Nat} {last : Int} {st : St} (h : (prnSt1 s e last st).er = 0) : (numSt s e st 1 63 2).er = 0 ∧ last < numO s e st := by
  unfold prnSt1 at h
  by_cases h1 : numO s e st ≤ last
  · rw [if_pos h1] at h; exact absurd h (fun h => fail_er (by decide) h)
  · rw [if_neg h1] at h; exact ⟨h, by omega⟩
/-- One round of the loop over the numbers of satellites. -/
theorem prn_step {s : ByteArray} {e k : Nat} {last z : Int} {st fin : St} {zs L : List Int} (h0 : st.er = 0) (hz : (numSt s e st 1 63 2).er = 0 → z = numO s e st)
    (hE : prnSt s e (k + 1) last st = fin) (hL : fin.er = 0 → zs ++ prnL s e (k + 1) last st = L) :
    prnSt s e k z (prnSt1 s e last st) = fin ∧ (fin.er = 0 → (zs ++ [z]) ++ prnL s e k z (prnSt1 s e last st) = L) := by
  have h0' : ¬ st.er ≠ 0 := by simpa using h0
  unfold prnSt at hE
  rw [if_neg h0'] at hE
  unfold prnL at hL
  rw [if_neg h0'] at hL
  by_cases h1 : (prnSt1 s e last st).er = 0
  · obtain ⟨h2, _⟩ := prn1_er h1
    rw [hz h2]
    refine ⟨hE, fun hf => ?_⟩
    rw [List.append_assoc]
    exact hL hf
  · rw [prnSt_er h1] at hE ⊢
    subst hE
    exact ⟨rfl, fun hf => absurd hf h1⟩
theorem prn_done {s : ByteArray} {e k : Nat} {last : Int} {st fin : St} {zs L : List Int} (h : st.er ≠ 0 ∨ k = 0)
    (hE : prnSt s e k last st = fin) (hL : fin.er = 0 → zs ++ prnL s e k last st = L) : st = fin ∧ (fin.er = 0 → zs = L) := by
  rcases h with h | rfl
  · rw [prnSt_er h] at hE
    subst hE
    exact ⟨rfl, fun hf => absurd hf h⟩
  · exact ⟨hE, fun hf => by have := hL hf; unfold prnL at this; simpa using this⟩
theorem prnSt_fin {s : ByteArray} {e : Nat} : ∀ (k : Nat) (last : Int) (st : St), (prnSt s e k last st).er = 0 → st.er = 0
  | 0, _, _, h => h
  | k + 1, last, st, h => by
    by_cases h1 : st.er ≠ 0
    · rw [prnSt_er h1] at h; exact h
    · simpa using h1
theorem fixEnd_er {s : ByteArray} {e : Nat} {st : St} (h : (fixEnd s e st).er = 0) : (fixSt s e st 8).er = 0 := prnSt_fin _ _ _ h
end Go.Proofs.YteeekdffbcbamaaGreatDoor.Plain
