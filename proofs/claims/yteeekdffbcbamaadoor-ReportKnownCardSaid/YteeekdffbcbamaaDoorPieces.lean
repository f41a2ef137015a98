/-
  WALKS: the lines of a text, one by one (package report: pieces): the iterator keeps the rest of the text in its box.
-/
import Derived.Test.YteeekdffbcbamaaDoorField
import Derived.Test.YteeekdffbcbamaaDoorPlainLn
import Derived.Test.YteeekdffbcbamaaDoorRfLaw
import Derived.Shelf.Abstract
import Derived.Shelf.RegionOpen
import Derived.WalkKit
import Derived.OwnWalkIn
import Derived.TacticsInMore
import Derived.LoopNIn
import Derived.LoopIn
namespace Go.Proofs.YteeekdffbcbamaaDoor
open Go.RowKit Go.Shelf
attribute [local go_sem] Oper.semAt_some

/-- A number and a line, as they are handed to the loop. -/
def lineEnc (x : Nat × ByteArray) : Array Value := #[.int .i64 (x.1 : Int), .string x.2]
/-- How much of the text is left in the box. -/
def boxLeft (bx : Nat) (W : World) : Nat := match W.cell? ⟨bx, 0, none⟩ with
  | some (.string g) => g.size
  | _ => 0
theorem boxLeft_eq {bx : Nat} {W : World} {g : ByteArray} (h : W.cell? ⟨bx, 0, none⟩ = some (.string g)) : boxLeft bx W = g.size := by
  unfold boxLeft
  rw [h]
set_option maxRecDepth 100000 in
set_option maxHeartbeats 2000000 in
theorem pieces_iter (bx : Nat) (s : ByteArray) (w : World) (hs : s.size ≤ 1000000) (hbx : w.heap[bx]? = some (.cells #[.string s] 9 (0, 0))) :
    IterBox Tryd.prog 29 #[.pointer (some ⟨bx, 0, none⟩)] lineEnc bx (Plain.lines s) w := by
  intro l J W hW hJ hY h0
  have hbl : bx < w.heap.size := (Array.getElem?_eq_some_iff.1 hbx).1
  have hX : Boxed W bx 9 (.string s) := (hW.block bx hbl).trans hbx
  clear hbx hW
  refine callsIn_of_wp Tryd.func29 rfl trivial ?_ rfl
  simp only [Tryd.ntmps29, List.size_toArray, List.length_cons, List.length_nil, Nat.reduceAdd, Nat.reduceSub, Array.replicate_succ, Array.replicate_zero, List.push_toArray, List.append_toArray, List.nil_append, List.cons_append]
  gi_wp2
  gi_loopw [3] (fun i wr => ∃ (pre : List (Nat × ByteArray)) (g : ByteArray) (k f : Nat), i = .int .i64 k ∧ pre ++ Plain.numF k (Plain.linesF f g) = Plain.lines s ∧ g.size ≤ f ∧ k + g.size ≤ s.size ∧ Boxed wr bx 9 (.string g) ∧ J pre wr) (fun _ wr => boxLeft bx wr)
  case atStart => exact ⟨[], s, 0, s.size, rfl, rfl, Nat.le_refl _, by omega, hX, h0⟩
  case round =>
    obtain ⟨pre, g, k, f, rfl, hE, hf, hk, hx, hj⟩ := hrel
    have hg1 : g.size ≤ 1000000 := by omega
    by_cases hg0 : g.size = 0
    · obtain rfl : g = ⟨#[]⟩ := Plain.bytes_eq0 hg0
      rw [Plain.linesF_none hg0] at hE
      have hE' : pre = Plain.lines s := by simpa [Plain.numF] using hE
      have hc := hx.cell
      gi_wp2
      go_end0
      exact ⟨⟨_, rfl⟩, hE' ▸ hj⟩
    · obtain ⟨f, rfl⟩ : ∃ f', f = f' + 1 := ⟨f - 1, by omega⟩
      rw [Plain.linesF_step hg0] at hE
      have hlt := Plain.rest_lt hg0
      have hCut := cut_any g 10 wr hg1 (Plain.pieceN g) rfl _ rfl _ rfl
      obtain ⟨n, hn⟩ : ∃ n, Plain.pieceN g = n := ⟨_, rfl⟩
      rw [hn] at hE hlt hCut
      obtain ⟨R, hR⟩ : ∃ R, Plain.restB g n = R := ⟨_, rfl⟩
      obtain ⟨pc, hpc⟩ : ∃ pc, g.extract 0 n = pc := ⟨_, rfl⟩
      obtain ⟨fd, hfd⟩ : ∃ fd, decide (n < g.size) = fd := ⟨_, rfl⟩
      rw [hR] at hE hlt hCut
      rw [hpc] at hE hCut
      rw [hfd] at hCut
      clear hn hR hpc hfd
      have hE2 : (pre ++ [(k, pc)]) ++ Plain.numF (k + 1) (Plain.linesF f R) = Plain.lines s := by rw [List.append_assoc]; exact hE
      have hc := hx.cell
      have q1 : ¬ g.toList = [] := by rw [ByteArray.toList_eq]; exact Plain.bytes_ne2 hg0
      have q2 : (!g.toList.isEmpty) = true := by simpa using q1
      gi_wp2_with ((refine ⟨trivial, ?_⟩; gi_at_call 30; refine (callsIn_wide.2 hCut).mono ?_; rintro e w1 ⟨rfl, m, rfl⟩; obtain ⟨fn, tmps, assign, body, hy0, hRd⟩ := hY pre (k, pc) (wr.drewN m) (hJ pre wr _ none hj (grown_drewN _ _ _) (fun r e => by cases e)) ⟨_, hE2⟩; have hy : (Instr.yield l #[.int .i64 (k : Int), .string pc]).run Tryd.prog (wr.drewN m) = .ok (.round l fn tmps assign body) (wr.drewN m) := hy0; clear hy0))
      refine hRd.mono ?_
      rintro e W3 ⟨rfl, hJ3, hsz3, hbx3⟩
      have hx3 : Boxed W3 bx 9 (.string g) := hbx3.trans hx
      have hc3 := hx3.cell
      have hf3 := hx3.frozen
      have hx4 := hx3.set (.string R)
      have hJ4 := hJ _ _ _ (some bx) hJ3 (grownBy_setCell' W3 bx (.string R)) (fun r e => by cases e; rfl)
      have hm1 := boxLeft_eq hx.cell
      have hm2 := boxLeft_eq hx4.cell
      have hk1 : (k : Int) + 1 ≤ 9223372036854775807 := by omega
      gi_wp2
      go_roundw
      case rel => exact ⟨pre ++ [(k, pc)], R, k + 1, f, by go_num, hE2, by omega, by omega, hx4, hJ4⟩
      case measure => rw [hm1, hm2]; exact hlt
/-- The iterator's value. -/
theorem pieces_any (s : ByteArray) (w : World) : Calls Tryd.prog 18 #[.string s] w fun e w' => e = .returned (.func (.func 29) #[] #[.pointer (some ⟨w.heap.size, 0, none⟩)]) ∧ w' = w.alloc (.cells #[.string s] 9) := by
  go_enter Tryd.func18, Tryd.ntmps18
  go_wp2_with fail
  go_ret
  exact ⟨rfl, rfl⟩
end Go.Proofs.YteeekdffbcbamaaDoor
