/-
  WALKS, joined: the sentence of any line (the reference).
-/
import Derived.Test.YteeekdffbcbamaaGreatDoorRPk0
import Derived.Test.YteeekdffbcbamaaGreatDoorRPk1
import Derived.Test.YteeekdffbcbamaaGreatDoorRPk2
import Derived.Test.YteeekdffbcbamaaGreatDoorRPk3
import Derived.Test.YteeekdffbcbamaaGreatDoorParsesW
import Derived.Test.YteeekdffbcbamaaGreatDoorG2
import Derived.Test.YteeekdffbcbamaaGreatDoorCards
import Derived.Test.YteeekdffbcbamaaGreatDoorTie
import Derived.SevenTiedAt
import Derived.ChangeSame
import Derived.ChangeVars
import Derived.RowKit
import Derived.Stop.Joined
namespace Go.Proofs.YteeekdffbcbamaaGreatDoor
open Go.RowKit

theorem Plain.parse_fault {s : ByteArray} {er ea : Int} (h : Plain.endsP s = (0, er, ea)) (h0 : er ≠ 0) : Plain.parse s = (Plain.zeroSn, er, ea) := by
  unfold Plain.parse
  rw [h]
  exact if_pos h0
theorem Plain.parse_fields {s : ByteArray} {e : Nat} (h : Plain.endsP s = (e, 0, 0)) : Plain.parse s = Plain.fieldsP s e (Plain.kindW (Plain.wordF s e).data.toList) := by
  unfold Plain.parse
  rw [h]
  exact if_neg (by simp)
theorem rparse_any (s : ByteArray) (w : World) : Calls Tryz.prog 15 #[.string s] w (ParsePost w (Plain.parse s)) := by
  by_cases c0 : 500 < s.size
  · rw [Plain.parse_fault (by unfold Plain.endsP; rw [if_pos c0]) (by decide)]
    exact rp_long s w c0
  have h : s.size ≤ 500 := by omega
  by_cases hd : s.data.toList.head? = some 36
  · have hd' : ¬ s.data.toList.head? ≠ some 36 := fun g => g hd
    obtain ⟨e, he⟩ : ∃ e, Plain.starN s = e := ⟨_, rfl⟩
    have hle := Plain.starN_le s
    by_cases c2 : e = s.size
    · rw [Plain.parse_fault (er := 11) (ea := e) (by unfold Plain.endsP; rw [if_neg c0, if_neg hd', he, if_pos c2, c2]) (by decide)]
      exact rp_nostar s w h hd e he c2
    by_cases hx : Plain.hexAt s (e + 1) < 0
    · rw [Plain.parse_fault (er := 11) (ea := (e : Int) + 1) (by unfold Plain.endsP; rw [if_neg c0, if_neg hd', he, if_neg c2, if_pos hx]) (by decide)]
      exact rp_d1 s w h hd e he (by omega) hx
    by_cases hy : Plain.hexAt s (e + 2) < 0
    · rw [Plain.parse_fault (er := 11) (ea := (e : Int) + 2) (by unfold Plain.endsP; rw [if_neg c0, if_neg hd', he, if_neg c2, if_neg hx, if_pos hy]) (by decide)]
      exact rp_d2 s w h hd e he (by omega) hy
    by_cases c1 : e + 3 < s.size
    · rw [Plain.parse_fault (er := 11) (ea := (e : Int) + 3) (by unfold Plain.endsP; rw [if_neg c0, if_neg hd', he, if_neg c2, if_neg hx, if_neg hy, if_pos c1]) (by decide)]
      exact rp_more s w h hd e he (by omega) (by omega) c1
    by_cases hm : (Plain.sumN (s.extract 1 e).data.toList : Int) = 16 * Plain.hexAt s (e + 1) + Plain.hexAt s (e + 2)
    · rw [Plain.parse_fields (e := e) (by unfold Plain.endsP; rw [if_neg c0, if_neg hd', he, if_neg c2, if_neg hx, if_neg hy, if_neg c1, if_neg (fun g => g hm)])]
      have hx' : 0 ≤ Plain.hexAt s (e + 1) := by omega
      have hy' : 0 ≤ Plain.hexAt s (e + 2) := by omega
      have hc : s.size ≤ e + 3 := by omega
      unfold Plain.kindW
      by_cases h1 : (Plain.wordF s e).data.toList = [70, 73, 88]
      · rw [if_pos h1]
        exact rp_k1 s w h hd e he hx' hy' hc hm h1
      · rw [if_neg h1]
        by_cases h2 : (Plain.wordF s e).data.toList = [83, 65, 84]
        · rw [if_pos h2]
          exact rp_k2 s w h hd e he hx' hy' hc hm h2
        · rw [if_neg h2]
          by_cases h3 : (Plain.wordF s e).data.toList = [84, 88, 84]
          · rw [if_pos h3]
            exact rp_k3 s w h hd e he hx' hy' hc hm h3
          · rw [if_neg h3]
            exact rp_k0 s w h hd e he hx' hy' hc hm h1 h2 h3
    · rw [Plain.parse_fault (er := 14) (ea := (e : Int) + 1) (by unfold Plain.endsP; rw [if_neg c0, if_neg hd', he, if_neg c2, if_neg hx, if_neg hy, if_neg c1, if_pos hm]) (by decide)]
      exact rp_bad s w h hd e he (by omega) (by omega) (by omega) hm
  · rw [Plain.parse_fault (by unfold Plain.endsP; rw [if_neg c0, if_pos hd]) (by decide)]
    by_cases hz : s.size = 0
    · exact rp_empty s w hz
    · exact rp_no s w h (by omega) hd
end Go.Proofs.YteeekdffbcbamaaGreatDoor
/-
  THE ROW AND THE CARD: ReportParses.
-/
namespace Go.Proofs.YteeekdffbcbamaaGreatDoor
open Go.RowKit Go.ChangeShapes Go.WideShapes
theorem Tryz.own41 : ownKnob Tryz.prog.godebug = none := by kernel_rfl
theorem heap8 {W : World} (h : laidMet Tryz.prog Rows.reportParsesRow.laid W) : 8 ≤ W.heap.size := by
  obtain ⟨ps, ⟨g0, t0, cs0, f0, p0, q0, hg0, ht0, hv0, _⟩, _⟩ := h.tail
  have hg : Tryz.prog.globalNamed "math/bits.deBruijn64tab" = some 7 := by kernel_rfl
  unfold World.var? at hv0
  rw [hg] at hv0
  by_cases hlt : 8 ≤ W.heap.size
  · exact hlt
  · have hn : W.heap[7]? = none := by simp; omega
    simp [hn] at hv0
theorem env_of_laidH {W : World} (h : laidMetH Tryz.prog Rows.reportParsesRow.laid W) : Env W := by
  have h1 : laidMet Tryz.prog Rows.reportParsesRow.laid W := h
  exact env_of_laid (heap8 h1) h1
theorem laidWorld_met (os : Os) (args : Array Value) : laidMetH Tryz.prog Rows.reportParsesRow.laid ((laidWorld os).forCall (fun _ _ => 0) ⟨#[], args, []⟩).memory :=
  laidMetH_of_parts (laid_met os args) (by kernel_rfl)
set_option maxRecDepth 100000 in
theorem parses_lifted (os : Os) (started : os.Started) (H : Type) (enc : TypeId × Value → H) :
    ReturnsInHanded {} Tryz.checked os 4 .any (fun w args => (Rows.reportParsesSpec.pre enc Tryz.prog Tryz.f4 [] false w args ∧ laidMetH Tryz.prog Rows.reportParsesRow.laid w) ∧ sizedMet enc Tryz.prog Tryz.f4 (OpenSpec.ofChange Rows.reportParsesSpec) false w args)
      (Rows.reportParsesSpec.post enc Tryz.prog Tryz.f4 false true false false) := by
  refine returnsInHanded_of_change_and (C := Tryz.checked) (X := fun w _ => laidMetH Tryz.prog Rows.reportParsesRow.laid w) (fun _ _ _ hh h => h.of_heap hh) Tryz.own41 started (by kernel_rfl) Tryz.func4
    (ChangeSpec.witness_at (enc := enc) (C := Tryz.checked) (os := os) (X := fun w _ => laidMetH Tryz.prog Rows.reportParsesRow.laid w) false (laidWorld os) #[.string ⟨#[]⟩] 8 rfl (by kernel_rfl) (by kernel_rfl) (by kernel_rfl) (by kernel_rfl) (by kernel_rfl) (laidWorld_met os _)) ?_
  intro W base args ds gs before hval0 hW _ _ hL _
  have hval : ∀ (j : Nat) t v, Tryz.f4.params[j]? = some t → args[j]? = some v → Value.okWide Tryz.prog W .any base t v := hval0
  have hW' := hW
  obtain ⟨p, q, hA0, hV0, rfl, hfz, hnd⟩ := hW
  have hA : DataW.TrodAll enc Tryz.prog W 0 (fun _ => true) true Tryz.f4.params.toList args.toList ds p := hA0
  have hV : DataW.TrodVars enc Tryz.prog W (fun _ => true) [] gs q := hV0
  rw [Tryz.params4] at hA hval
  obtain ⟨v0, d0, rfl, rfl, h0⟩ := trodAll_one hA
  obtain ⟨s, rfl, rfl, rfl, ws⟩ := Go.ChangeMaps.open_string Tryz.underlying9 (hval 0 9 v0 rfl rfl) h0
  obtain ⟨rfl, rfl⟩ : gs = [] ∧ q = [] := by
    cases gs with
    | nil => exact ⟨rfl, hV⟩
    | cons g r => exact absurd hV (by intro h; cases h)
  have e1 : Rows.reportParsesSpec.fn H ([.lit (.string s.data.toList)] ++ []) = { results := [.lit (.bool true)], args := [.lit (.string s.data.toList)] } := rfl
  refine (parses_of rparse_any s W (env_of_laidH hL)).mono fun e W' ⟨he, hb⟩ => ?_
  subst he
  refine ⟨_, rfl, _, _, _, [], [], [], hW', ?_, ?_, ?_, hb.frame _, fun h => by cases h⟩
  · rw [e1]; exact trodAll_mk1 (shut_bool Tryz.underlying4 true)
  · rw [e1]; exact trodAll_mk1 (Go.ChangeMaps.shut_string Tryz.underlying9 ws)
  · rw [e1]; rfl
theorem reportParses_holds : Rows.ReportParsesSaid :=
  OpenClaim.holds_of_wide 4 Tryz.f4 rfl rfl rfl rfl rfl rfl rfl ⟨rfl, rfl, rfl, rfl, rfl⟩ rfl rfl rfl rfl rfl (by kernel_rfl) Tryz.func4 (by kernel_rfl)
    (of_decide_eq_true (by kernel_rfl)) (by unfold Func.isWrapper; rw [if_neg (of_decide_eq_false (by kernel_rfl))]; exact ⟨rfl, rfl⟩)
    (fun os started H enc _ => parses_lifted os started H enc)
theorem reportParsesCard_holds : Rows.ReportParsesCardSaid :=
  Claim7.holds_tied_plain_at .later [] [.data, .data, .data, .data, .sentinel, .sentinel, .pinned] true (true, "858dbc15035224e774b8f3b1dc30a58a4cf74d649e0dff3dff63d326204288b1") true
    reportParses_holds (fun _ h => by cases h) (by kernel_rfl) (fun _ h => by cases h) reportParses_row_tie rfl ⟨rfl, rfl⟩ (by kernel_rfl) rfl
    (fun f fn hf hfn => by
      obtain rfl : f = 4 := Option.some.inj ((show Tryz.prog.funcNamed "skyfix/skyfixlaw41.ReportParses" = some 4 by kernel_rfl).symm.trans hf) |>.symm
      obtain rfl : fn = Tryz.f4 := (Option.some.inj (Tryz.func4.symm.trans hfn)).symm
      exact ⟨by kernel_rfl, fun j t ht => by
        rw [Tryz.params4] at ht
        have h3 : t = 9 := by
          rcases j with _ | j
          · simpa using ht.symm
          · simp at ht
        subst h3
        exact (show Tryz.prog.wantsStandIn 9 = false by kernel_rfl)⟩)
    (by kernel_rfl)
end Go.Proofs.YteeekdffbcbamaaGreatDoor
