/-
  WALKS: Start of package spans and of the reference.
-/
import Derived.Test.YtacglimhkpfanaaStepR
import Derived.Shelf.SlicesQ.IndexFunc
import Derived.Lib.SliceRun
namespace Go.Proofs.Ytacglimhkpfanaa
open Go.Shelf Go.RowKit Go.Lib
def Try.anyChan_ren : Go.Shelf.Ren := ⟨fun | 8 => 37 | 6 => 41 | n => n, fun | 22 => 34 | 23 => 23 | 25 => 47 | 4 => 4 | 3 => 3 | 0 => 0 | n => n, fun | n => n⟩
theorem Try.anyChan : Go.Proofs.SlLaysH0.n8 Try.prog Try.anyChan_ren := {
  mixed := by kernel_rfl
  f6 := ⟨Try.f41.name, by decide, Try.func41.trans (congrArg some (by kernel_rfl))⟩
  f8 := ⟨Try.f37.name, by decide, Try.func37.trans (congrArg some (by kernel_rfl))⟩
  t0 := Try.underlying0
  a0 := Try.isAgg0
  z0 := Try.sizeOf0
  v0 := Try.zeroValue0
  t3 := Try.underlying3
  a3 := Try.isAgg3
  z3 := Try.sizeOf3
  v3 := Try.zeroValue3
  t4 := Try.underlying4
  a4 := Try.isAgg4
  z4 := Try.sizeOf4
  v4 := Try.zeroValue4
  t22 := Try.underlying34
  a22 := Try.isAgg34
  z22 := Try.sizeOf34
  v22 := Try.zeroValue34
  t25 := Try.underlying47
  a25 := Try.isAgg47
  z25 := Try.sizeOf47
  v25 := Try.zeroValue47 }

def encCh (x : Plain.Tri) : List Value := [.int .i64 x.1, .int .i64 x.2.1, .int .i64 x.2.2]
theorem pred38 (w : World) : PredBelow Try.prog 38 #[] (fun x => .agg (encCh x).toArray) (fun x => !Plain.cB x) w := fun W x hb => by
  show Calls Try.prog 38 #[.agg #[.int .i64 x.1, .int .i64 x.2.1, .int .i64 x.2.2]] W fun e w' => e = .returned (.bool (!Plain.cB x)) ∧ Below w.heap.size w w'
  obtain ⟨r, hr⟩ : ∃ r, Plain.cB x = r := ⟨_, rfl⟩
  have HC := Lib.hid (fun W' => channel_any x.1 x.2.1 x.2.2 W')
  have HR := Lib.hid (show Plain.chB x.1 x.2.1 x.2.2 = r from hr)
  rw [hr]
  clear hr
  have HB := Lib.hid hb; clear hb
  go_enter Try.func38, Try.ntmps38
  go_wp2_with fail
  refine (HC.out _).mono ?_
  rintro e w1 ⟨rfl, rfl⟩
  rw [HR.out]
  go_wp2_with fail
  go_ret
  exact ⟨rfl, (HB.out.alloc HB.out.size _).alloc (Nat.le_trans HB.out.size (by simp)) _⟩
theorem contains_any (ad : Addr) (k c : Nat) (cs : List Plain.Tri) (w : World) (hsp : ad.spot = none) (hl : cs.length = k) (hk : k ≤ 1000000) (hr : Reads3 w w.heap.size (some ad) cs) (hb : ad.block < w.heap.size) (r : Bool) (hR : cs.all Plain.cB = r) :
    Calls Try.prog 37 #[.slice (some ad) k c, .func (.func 38) #[] #[]] w fun e w' => e = .returned (.bool (!r)) ∧ Below w.heap.size w w' := by
  obtain ⟨b, off, sp⟩ := ad
  simp only at hsp hb
  subst hsp
  have eg : ∀ args w, (callFunc 38 args).run Try.prog w = .ok (.enter 38 args) w := enters_of Try.func38 (by kernel_rfl) rfl
  have hcon := AnyQ.slices_ContainsFunc Try.anyChan 3 Try.isAgg23 Try.sizeOf23 encCh (fun _ => rfl) (fun x => !Plain.cB x) 38 #[] eg b off k c cs w (pred38 w) (by omega) (by omega) hb (fun j hj i v hi => by
    obtain ⟨ad, e, _, h0, h1, h2⟩ := hr j hj
    cases e
    rw [getElem!_pos cs j hj] at hi
    have ea : ∀ n, (⟨b, off, none⟩ : Addr).add n = ⟨b, off + n, none⟩ := fun n => by
      unfold Addr.add
      split
      · subst_vars; rfl
      · rfl
    rw [ea] at h0 h1 h2
    match i, hi with
    | 0, hi => simp [encCh] at hi; rw [← hi]; exact h0
    | 1, hi => simp [encCh] at hi; rw [← hi]; exact h1
    | 2, hi => simp [encCh] at hi; rw [← hi]; exact h2
    | i + 3, hi => simp [encCh] at hi)
  change Calls Try.prog 37 _ _ _ at hcon
  have e1 : (cs.take k).any (fun x => !Plain.cB x) = !r := by
    rw [List.take_of_length_le (by omega), ← hR]
    exact (List.not_all_eq_any_not ..).symm
  rw [e1] at hcon
  exact hcon
end Go.Proofs.Ytacglimhkpfanaa
