/-
  WALKS: All of package spans and of the reference, with their errors.
-/
import Derived.Test.YtacglimhkpfanaaAllR
namespace Go.Proofs.Ytacglimhkpfanaa
open Go.RowKit

/-- What both return. -/
def AllPost (V : List Plain.Tri) (E : Int) (w : World) (e : Ending) (w' : World) : Prop :=
  ∃ A' n c', e = .returned (.tuple #[.slice A' n c', .int .i64 E]) ∧ V.length = n ∧ Reads3 w' w'.heap.size A' V ∧ Below w.heap.size w w'
theorem AllPost.nil {w w' : World} {E : Int} (hb : Below w.heap.size w w') : AllPost [] E w (.returned (.tuple #[.slice none 0 0, .int .i64 E])) w' :=
  ⟨none, 0, 0, rfl, rfl, fun j hj => absurd hj (by simp), hb⟩

theorem all19_any (l over rx : Int) (A : Option Addr) (k c : Nat) (cs : List Plain.Tri) (w : World) (hl : cs.length = k) (hr : Reads3 w w.heap.size A cs)
    (V : List Plain.Tri) (E : Int) (hV : Plain.allV l over rx cs = V) (hE : Plain.allE l over rx cs = E) :
    Calls Try.prog 19 #[.int .i64 l, .int .i64 over, .int .i64 rx, .slice A k c] w fun e w' => AllPost V E w e w' := by
  by_cases hb : Plain.bndE l over = 0
  · by_cases hk : k ≤ 16
    · exact all19_loop l over rx A k c cs w hl hk hr _ rfl hb V E hV hE
    · have e4 : Plain.allE l over rx cs = 4 := by unfold Plain.allE; rw [if_pos hb, if_neg (by omega)]
      have eV : V = [] := by rw [← hV]; unfold Plain.allV; rw [e4]; rfl
      have HB := Lib.hid (fun W => bound12_is l over _ 0 rfl hb W)
      rw [e4] at hE
      subst hE eV
      clear hV e4 hb
      generalize Plain.bndV l over = b at HB
      go_enter Try.func19, Try.ntmps19
      go_wp2_with fail
      refine (HB.out _).mono ?_
      rintro e w1 ⟨rfl, rfl⟩
      go_wp2_with fail
      go_ret2
      exact AllPost.nil (Below.refl _ _)
  · have e4 : Plain.allE l over rx cs = Plain.bndE l over := by unfold Plain.allE; rw [if_neg hb]
    have eV : V = [] := by rw [← hV]; unfold Plain.allV; rw [e4, if_neg hb]
    have HB := Lib.hid (fun W => bound12_is l over _ _ rfl rfl W)
    rw [hE] at e4
    subst e4 eV
    clear hV
    generalize Plain.bndV l over = b at HB
    generalize Plain.bndE l over = e0 at HB hb
    have hq : (e0 != 0) = true := by simpa using hb
    clear hb
    go_enter Try.func19, Try.ntmps19
    go_wp2_with fail
    refine (HB.out _).mono ?_
    rintro e w1 ⟨rfl, rfl⟩
    go_wp2_with fail
    go_ret2
    exact AllPost.nil (Below.refl _ _)

theorem all20_any (l over rx : Int) (A : Option Addr) (k c : Nat) (cs : List Plain.Tri) (w : World) (hl : cs.length = k) (hr : Reads3 w w.heap.size A cs)
    (V : List Plain.Tri) (E : Int) (hV : Plain.allV l over rx cs = V) (hE : Plain.allE l over rx cs = E) :
    Calls Try.prog 20 #[.int .i64 l, .int .i64 over, .int .i64 rx, .slice A k c] w fun e w' => AllPost V E w e w' := by
  by_cases hb : Plain.bndE l over = 0
  · by_cases hk : k ≤ 16
    · exact all20_loop l over rx A k c cs w hl hk hr _ rfl hb V E hV hE
    · have e4 : Plain.allE l over rx cs = 4 := by unfold Plain.allE; rw [if_pos hb, if_neg (by omega)]
      have eV : V = [] := by rw [← hV]; unfold Plain.allV; rw [e4]; rfl
      have HB := Lib.hid (fun W => bound13_is l over _ 0 rfl hb W)
      rw [e4] at hE
      subst hE eV
      clear hV e4 hb
      generalize Plain.bndV l over = b at HB
      go_enter Try.func20, Try.ntmps20
      go_wp2_with fail
      refine (HB.out _).mono ?_
      rintro e w1 ⟨rfl, rfl⟩
      go_wp2_with fail
      go_ret2
      exact AllPost.nil (Below.refl _ _)
  · have e4 : Plain.allE l over rx cs = Plain.bndE l over := by unfold Plain.allE; rw [if_neg hb]
    have eV : V = [] := by rw [← hV]; unfold Plain.allV; rw [e4, if_neg hb]
    have HB := Lib.hid (fun W => bound13_is l over _ _ rfl rfl W)
    rw [hE] at e4
    subst e4 eV
    clear hV
    generalize Plain.bndV l over = b at HB
    generalize Plain.bndE l over = e0 at HB hb
    have hq : (e0 != 0) = true := by simpa using hb
    clear hb
    go_enter Try.func20, Try.ntmps20
    go_wp2_with fail
    refine (HB.out _).mono ?_
    rintro e w1 ⟨rfl, rfl⟩
    go_wp2_with fail
    go_ret2
    exact AllPost.nil (Below.refl _ _)
end Go.Proofs.Ytacglimhkpfanaa
