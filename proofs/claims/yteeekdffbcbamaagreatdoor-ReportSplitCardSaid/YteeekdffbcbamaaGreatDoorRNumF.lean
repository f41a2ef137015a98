/-
  WALKS, joined: fail, field and number of the reference on where a reader stands.
-/
import Derived.Test.YteeekdffbcbamaaGreatDoorG8
import Derived.Test.YteeekdffbcbamaaGreatDoorRNumE
import Derived.Test.YteeekdffbcbamaaGreatDoorRNumS
import Derived.Test.YteeekdffbcbamaaGreatDoorRNumZ
import Derived.Test.YteeekdffbcbamaaGreatDoorG3
namespace Go.Proofs.YteeekdffbcbamaaGreatDoor
open Go.RowKit
namespace Plain
theorem sat_pos {v v' : Nat} (h : v = v' ∨ (1000000000000000000 < v ∧ 1000000000000000000 < v')) (lo hi wr : Int) (hlo : lo ≤ 1000000000000000000) (hhi : hi ≤ 1000000000000000000) (hwr : wr ≠ 0) :
    (if (v : Int) < lo then (2 : Int) else if hi < (v : Int) then wr else 0) = (if (v' : Int) < lo then (2 : Int) else if hi < (v' : Int) then wr else 0) ∧ ((if (v : Int) < lo then (2 : Int) else if hi < (v : Int) then wr else 0) = 0 → (v : Int) = v') := by
  rcases h with rfl | ⟨h1, h2⟩
  · exact ⟨rfl, fun _ => rfl⟩
  · rw [if_neg (show ¬ (v : Int) < lo by omega), if_neg (show ¬ (v' : Int) < lo by omega), if_pos (show hi < (v : Int) by omega), if_pos (show hi < (v' : Int) by omega)]
    exact ⟨rfl, fun h => absurd h hwr⟩
theorem sat_neg {v v' : Nat} (h : v = v' ∨ (1000000000000000000 < v ∧ 1000000000000000000 < v')) (lo hi wr : Int) (hlo : -1000000000000000000 ≤ lo) :
    (if -(v : Int) < lo then (2 : Int) else if hi < -(v : Int) then wr else 0) = (if -(v' : Int) < lo then (2 : Int) else if hi < -(v' : Int) then wr else 0) ∧ ((if -(v : Int) < lo then (2 : Int) else if hi < -(v : Int) then wr else 0) = 0 → -(v : Int) = -(v' : Int)) := by
  rcases h with rfl | ⟨h1, h2⟩
  · exact ⟨rfl, fun _ => rfl⟩
  · rw [if_pos (show -(v : Int) < lo by omega), if_pos (show -(v' : Int) < lo by omega)]
    exact ⟨rfl, fun h => by cases h⟩
theorem list_head (F : ByteArray) (h : 0 < F.size) : ∃ r, F.data.toList = F[0] :: r := by
  have := len_size F
  cases hl : F.data.toList with
  | nil => rw [hl] at this; simp at this; omega
  | cons x r =>
    have h2 : F.data.toList[0]? = some x := by rw [hl]; rfl
    have h3 : F.data.toList[0]? = some F[0] := by
      rw [List.getElem?_eq_getElem (by rw [len_size]; exact h)]
      rfl
    rw [h3] at h2
    obtain rfl : F[0] = x := by simpa using h2
    exact ⟨r, rfl⟩
theorem neg_iff (F : ByteArray) (h : 0 < F.size) : negB F.data.toList = decide ((F[0].toNat : Int) = 45) := by
  obtain ⟨r, hr⟩ := list_head F h
  rw [hr]
  unfold negB
  by_cases h2 : F[0] = 45
  · simp [h2]
  · have : ¬ (F[0].toNat : Int) = 45 := fun e => h2 (UInt8.toNat_inj.1 (show F[0].toNat = (45 : UInt8).toNat by have : (45 : UInt8).toNat = 45 := rfl; omega))
    simp [h2, this]
theorem body_neg (F D : ByteArray) (h : 0 < F.size) (h45 : (F[0].toNat : Int) = 45) (hD : F.extract 1 F.size = D) : body F.data.toList = D.data.toList := by
  unfold body
  rw [neg_iff F h, decide_eq_true h45, if_pos rfl, ← hD, extract_list, List.take_of_length_le (by rw [List.length_drop, len_size]; omega), List.drop_one]
theorem body_pos (F : ByteArray) (h : 0 < F.size) (h45 : ¬ (F[0].toNat : Int) = 45) : body F.data.toList = F.data.toList := by
  unfold body
  rw [neg_iff F h, decide_eq_false h45]
  rfl
theorem all_dig_of (D : ByteArray) (h : D.data.toList.all digB = true) : ∀ k (hk : k < D.size), (48 : Int) ≤ D[k].toNat ∧ (D[k].toNat : Int) ≤ 57 := by
  intro k hk
  rw [List.all_eq_true] at h
  have := h D[k] (by
    have hl : k < D.data.toList.length := by rw [len_size]; exact hk
    have : D.data.toList[k] = D[k] := rfl
    rw [← this]
    exact List.getElem_mem hl)
  unfold digB at this
  simp at this
  omega
end Plain

section
variable (b T : Nat) (s : ByteArray) (e : Nat) (st : Plain.St) (X : Array Value) (w : World)
theorem rfail_st (c z : Int) (h : Rs w b T s e st X) :
    Calls Tryz.prog 38 #[.pointer (some ⟨b, 0, none⟩), .int .i64 c, .int .i64 z] w fun en w' => en = .returned (.tuple #[]) ∧ Rs w' b T s e (Plain.failSt st c z) X ∧ w.grownBy w' (some b) := by
  refine (rfail_any b T s st.pos e st.more st.er st.ea c z X w h).mono ?_
  rintro en w' ⟨rfl, hr, hg⟩
  refine ⟨rfl, ?_, hg⟩
  unfold Rs Plain.failSt
  by_cases h1 : st.er ≠ 0
  · rw [if_pos h1]
    rw [Plain.fe_no h1, Plain.fa_no h1] at hr
    exact hr
  · have h0 : st.er = 0 := by simpa using h1
    rw [if_neg h1]
    rw [h0, Plain.fe_zero, Plain.fa_zero] at hr
    exact hr
theorem rfield_st (h : Rs w b T s e st X) (ok : Plain.okSt e st) (hs : s.size ≤ 1000000) (hes : e ≤ s.size) :
    Calls Tryz.prog 36 #[.pointer (some ⟨b, 0, none⟩)] w fun en w' => (∃ z : Int, en = .returned (.tuple #[.string (Plain.fldS s e st), .int .i64 z]) ∧ ((Plain.fldSt s e st).er = 0 → z = st.pos)) ∧ Rs w' b T s e (Plain.fldSt s e st) X ∧ w.grownBy w' (some b) := by
  unfold Rs Plain.fldS Plain.fldSt at *
  by_cases h1 : st.er ≠ 0
  · rw [if_pos h1, if_pos h1]
    refine (rfield_er b T s st.pos e st.er st.ea X w st.more h h1).mono ?_
    rintro en w' ⟨rfl, hr, hg⟩
    exact ⟨⟨0, rfl, fun h0 => absurd h0 h1⟩, hr, hg⟩
  · have h0 : st.er = 0 := by simpa using h1
    rw [if_neg h1, if_neg h1]
    rw [h0] at h
    by_cases h2 : st.more = true
    · rw [if_pos h2, if_pos h2]
      rw [h2] at h
      refine (rfield_ok b T s st.pos e st.ea X w h hs (ok h2) hes _ rfl _ rfl).mono ?_
      rintro en w' ⟨rfl, hr, hg⟩
      exact ⟨⟨st.pos, rfl, fun _ => rfl⟩, hr, hg⟩
    · rw [if_neg h2, if_neg h2]
      have h3 : st.more = false := by simpa using h2
      rw [h3] at h ⊢
      refine (rfield_end b T s st.pos e st.ea X w h).mono ?_
      rintro en w' ⟨rfl, hr, hg⟩
      exact ⟨⟨0, rfl, fun h0 => by cases h0⟩, hr, hg⟩
/-- What the reference's number comes to. -/
def RNumPost (b T : Nat) (s : ByteArray) (e a n : Nat) (fd : Bool) (ea : Int) (X : Array Value) (w : World) (F : ByteArray) (lo hi wr : Int) (en : Ending) (w' : World) : Prop :=
  ∃ z, en = .returned (.int .i64 z) ∧ (Plain.numE F.data.toList lo hi wr = 0 → z = Plain.numV F.data.toList) ∧ Rd w' b T s (a + n + 1) e fd (Plain.numE F.data.toList lo hi wr) (if Plain.numE F.data.toList lo hi wr = 0 then ea else a) X ∧ w.grownBy w' (some b)
theorem rnum_bad {a n : Nat} {fd : Bool} {ea : Int} {F : ByteArray} {lo hi wr : Int} {w' : World} {en : Ending} (hb : Plain.badB F.data.toList = true) (h : en = .returned (.int .i64 0) ∧ Rd w' b T s (a + n + 1) e fd 11 a X ∧ w.grownBy w' (some b)) : RNumPost b T s e a n fd ea X w F lo hi wr en w' := by
  obtain ⟨rfl, hr, hg⟩ := h
  have hE : Plain.numE F.data.toList lo hi wr = 11 := by unfold Plain.numE; rw [hb]; rfl
  refine ⟨0, rfl, ?_, ?_, hg⟩
  · rw [hE]; intro h; cases h
  · rw [hE]; exact hr
theorem rnumber_all (a n : Nat) (fd : Bool) (ea lo hi wr : Int) (F : ByteArray) (h : Rd w b T s a e true 0 ea X) (hs : s.size ≤ 1000000) (hae : a ≤ e) (hes : e ≤ s.size) (hn : Plain.fldN s a e = n) (hf : decide (a + n < e) = fd) (hF : s.extract a (a + n) = F)
    (hlo : -1000000000000000000 ≤ lo) (hlh : lo ≤ hi) (hhi : hi ≤ 1000000000000000000) (hwr : wr ≠ 0) :
    Calls Tryz.prog 37 #[.pointer (some ⟨b, 0, none⟩), .int .i64 lo, .int .i64 hi, .int .i64 wr] w (RNumPost b T s e a n fd ea X w F lo hi wr) := by
  by_cases h0 : F.size = 0
  · have hF0 : F = ⟨#[]⟩ := by apply ByteArray.ext; exact Array.eq_empty_of_size_eq_zero h0
    refine (rnumber_empty b T s a e ea X w lo hi wr h hs hae hes n hn fd hf (hF.trans hF0)).mono ?_
    intro en w' hp
    exact rnum_bad b T s e X w (by rw [hF0]; rfl) hp
  · have hF0 : 0 < F.size := by omega
    by_cases h45 : (F[0].toNat : Int) = 45
    · obtain ⟨D, hD⟩ : ∃ D, F.extract 1 F.size = D := ⟨_, rfl⟩
      have hbody := Plain.body_neg F D hF0 h45 hD
      have hneg : Plain.negB F.data.toList = true := by rw [Plain.neg_iff F hF0, decide_eq_true h45]
      by_cases hd0 : D.size = 0
      · refine (rnumber_sempty b T s a e ea X w lo hi wr h hs hae hes n hn fd hf F hF hF0 h45 D hD hd0).mono ?_
        intro en w' hp
        have hD0 : D = ⟨#[]⟩ := by apply ByteArray.ext; exact Array.eq_empty_of_size_eq_zero hd0
        exact rnum_bad b T s e X w (by unfold Plain.badB; rw [hbody, hD0]; rfl) hp
      · by_cases h19 : 19 < D.size
        · refine (rnumber_slong b T s a e ea X w lo hi wr h hs hae hes n hn fd hf F hF hF0 h45 D hD (by omega)).mono ?_
          intro en w' hp
          exact rnum_bad b T s e X w (by unfold Plain.badB; rw [hbody, Plain.len_size, decide_eq_true h19]; simp) hp
        · have hd1 : 0 < D.size := by omega
          by_cases h48 : (D[0].toNat : Int) = 48
          · refine (rnumber_slead b T s a e ea X w lo hi wr h hs hae hes n hn fd hf F hF hF0 h45 D hD hd1 (by omega) h48).mono ?_
            intro en w' hp
            refine rnum_bad b T s e X w ?_ hp
            obtain ⟨r, hr⟩ := Plain.list_head D hd1
            obtain ⟨r2, hr2⟩ := Plain.list_head F hF0
            have q1 : D[0] = 48 := UInt8.toNat_inj.1 (show D[0].toNat = (48 : UInt8).toNat by have : (48 : UInt8).toNat = 48 := rfl; omega)
            have q2 : F[0] = 45 := UInt8.toNat_inj.1 (show F[0].toNat = (45 : UInt8).toNat by have : (45 : UInt8).toNat = 45 := rfl; omega)
            unfold Plain.badB
            rw [hbody, hr, hr2, q1, q2]
            simp
          · cases hall : D.data.toList.all Plain.digB
            · refine (rnumber_sdig b T s a e ea X w lo hi wr h hs hae hes n hn fd hf F hF hF0 h45 D hD hd1 (by omega) h48 hall).mono ?_
              intro en w' hp
              exact rnum_bad b T s e X w (by unfold Plain.badB; rw [hbody, hall]; simp) hp
            · have hgood : Plain.badB F.data.toList = false := by
                obtain ⟨r, hr⟩ := Plain.list_head D hd1
                unfold Plain.badB
                rw [hbody, hall, Plain.len_size, decide_eq_false h19, hr]
                have q1 : ¬ D[0] = 48 := fun e => h48 (by rw [e]; rfl)
                simp [q1]
              have hnv : Plain.numV F.data.toList = -(Plain.decV 0 D.data.toList : Int) := by unfold Plain.numV; rw [hneg, hbody]; rfl
              obtain ⟨k1, k2⟩ := Plain.sat_neg (Plain.satV_zero D.data.toList) lo hi wr hlo
              have hE : Plain.numE F.data.toList lo hi wr = if -(Plain.satV 0 D.data.toList : Int) < lo then 2 else if hi < -(Plain.satV 0 D.data.toList : Int) then wr else 0 := by
                unfold Plain.numE
                rw [hgood, hnv, k1]
                rfl
              refine (rnumber_oks b T s a e ea X w lo hi wr h hs hae hes n hn fd hf F hF hF0 h45 D hD hd1 (by omega) h48 (Plain.all_dig_of D hall) hlh hwr _ hE).mono ?_
              rintro en w' ⟨rfl, hr, hg⟩
              refine ⟨_, rfl, ?_, hr, hg⟩
              rw [hE, hnv]
              exact k2
    · have hbody := Plain.body_pos F hF0 h45
      have hneg : Plain.negB F.data.toList = false := by rw [Plain.neg_iff F hF0, decide_eq_false h45]
      by_cases h19 : 19 < F.size
      · refine (rnumber_long b T s a e ea X w lo hi wr h hs hae hes n hn fd hf F hF hF0 h45 (by omega)).mono ?_
        intro en w' hp
        exact rnum_bad b T s e X w (by unfold Plain.badB; rw [hbody, Plain.len_size, decide_eq_true h19]; simp) hp
      · obtain ⟨r, hr⟩ := Plain.list_head F hF0
        have hnv : Plain.numV F.data.toList = (Plain.decV 0 F.data.toList : Int) := by unfold Plain.numV; rw [hneg, hbody]; rfl
        obtain ⟨k1, k2⟩ := Plain.sat_pos (Plain.satV_zero F.data.toList) lo hi wr (by omega) hhi hwr
        by_cases h48 : (F[0].toNat : Int) = 48
        · have q1 : F[0] = 48 := UInt8.toNat_inj.1 (show F[0].toNat = (48 : UInt8).toNat by have : (48 : UInt8).toNat = 48 := rfl; omega)
          by_cases hz : F.toList = [48]
          · have hz2 : F.data.toList = [48] := by rw [← ByteArray.toList_eq]; exact hz
            have hgood : Plain.badB F.data.toList = false := by rw [hz2]; decide
            have hall : F.data.toList.all Plain.digB = true := by rw [hz2]; decide
            have hE : Plain.numE F.data.toList lo hi wr = if (Plain.satV 0 F.data.toList : Int) < lo then 2 else if hi < (Plain.satV 0 F.data.toList : Int) then wr else 0 := by
              unfold Plain.numE
              rw [hgood, hnv, k1]
              rfl
            refine (rnumber_zero b T s a e ea X w lo hi wr h hs hae hes n hn fd hf F hF hF0 (by omega) h48 hz (Plain.all_dig_of F hall) hlh hwr _ hE).mono ?_
            rintro en w' ⟨rfl, hr, hg⟩
            refine ⟨_, rfl, ?_, hr, hg⟩
            rw [hE, hnv]
            exact k2
          · refine (rnumber_lead b T s a e ea X w lo hi wr h hs hae hes n hn fd hf F hF hF0 h48 hz (by omega)).mono ?_
            intro en w' hp
            refine rnum_bad b T s e X w ?_ hp
            rw [ByteArray.toList_eq] at hz
            unfold Plain.badB
            rw [hbody]
            have e1 : F.data.toList.head? = some 48 := by rw [hr, q1]; rfl
            have e2 : (F.data.toList != [48]) = true := by simpa using hz
            rw [e1, e2]
            simp
        · cases hall : F.data.toList.all Plain.digB
          · refine (rnumber_dig b T s a e ea X w lo hi wr h hs hae hes n hn fd hf F hF hF0 h45 (by omega) h48 hall).mono ?_
            intro en w' hp
            exact rnum_bad b T s e X w (by unfold Plain.badB; rw [hbody, hall]; simp) hp
          · have hgood : Plain.badB F.data.toList = false := by
              unfold Plain.badB
              have q1 : ¬ F[0] = 48 := fun e => h48 (by rw [e]; rfl)
              rw [hbody, hall, Plain.len_size, decide_eq_false h19]
              rw [hr]
              simp [q1]
            have hE : Plain.numE F.data.toList lo hi wr = if (Plain.satV 0 F.data.toList : Int) < lo then 2 else if hi < (Plain.satV 0 F.data.toList : Int) then wr else 0 := by
              unfold Plain.numE
              rw [hgood, hnv, k1]
              rfl
            refine (rnumber_ok b T s a e ea X w lo hi wr h hs hae hes n hn fd hf F hF hF0 h45 (by omega) h48 (Plain.all_dig_of F hall) hlh hwr _ hE).mono ?_
            rintro en w' ⟨rfl, hr, hg⟩
            refine ⟨_, rfl, ?_, hr, hg⟩
            rw [hE, hnv]
            exact k2
theorem rnumber_st (lo hi wr : Int) (h : Rs w b T s e st X) (ok : Plain.okSt e st) (hs : s.size ≤ 1000000) (hes : e ≤ s.size)
    (hlo : -1000000000000000000 ≤ lo) (hlh : lo ≤ hi) (hhi : hi ≤ 1000000000000000000) (hwr : wr ≠ 0) :
    Calls Tryz.prog 37 #[.pointer (some ⟨b, 0, none⟩), .int .i64 lo, .int .i64 hi, .int .i64 wr] w fun en w' => ∃ z, en = .returned (.int .i64 z) ∧ ((Plain.numSt s e st lo hi wr).er = 0 → z = Plain.numO s e st) ∧ Rs w' b T s e (Plain.numSt s e st lo hi wr) X ∧ w.grownBy w' (some b) := by
  unfold Rs Plain.numSt at *
  by_cases h1 : st.er ≠ 0
  · rw [if_pos h1]
    refine (rnumber_er b T s st.pos e st.er st.ea X w lo hi wr st.more h h1).mono ?_
    rintro en w' ⟨rfl, hr, hg⟩
    exact ⟨0, rfl, fun h0 => absurd h0 h1, hr, hg⟩
  · have h0 : st.er = 0 := by simpa using h1
    rw [if_neg h1]
    rw [h0] at h
    by_cases h2 : st.more = true
    · rw [if_pos h2]
      rw [h2] at h
      refine (rnumber_all b T s e X w st.pos _ _ st.ea lo hi wr _ h hs (ok h2) hes rfl rfl rfl hlo hlh hhi hwr).mono ?_
      rintro en w' ⟨z, rfl, hz, hr, hg⟩
      exact ⟨z, rfl, hz, hr, hg⟩
    · rw [if_neg h2]
      have h3 : st.more = false := by simpa using h2
      rw [h3] at h ⊢
      refine (rnumber_end b T s st.pos e st.ea X w lo hi wr h).mono ?_
      rintro en w' ⟨rfl, hr, hg⟩
      exact ⟨0, rfl, (fun h0 => by cases h0), hr, hg⟩
end
end Go.Proofs.YteeekdffbcbamaaGreatDoor
