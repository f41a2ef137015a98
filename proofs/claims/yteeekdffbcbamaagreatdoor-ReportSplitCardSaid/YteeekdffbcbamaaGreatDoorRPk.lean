/-
  WALKS: the reference's Parse where the frame is right: what the ways share.
-/
import Derived.Test.YteeekdffbcbamaaGreatDoorRPsC
import Derived.Test.YteeekdffbcbamaaGreatDoorG4
namespace Go.Proofs.YteeekdffbcbamaaGreatDoor
open Go.RowKit

theorem rrd_new (w : World) (s : ByteArray) (e : Nat) : Rs (w.alloc (.cells #[.string s, .int .i64 1, .int .i64 e, .bool true, .int .i64 0, .int .i64 0] 78)) w.heap.size 78 s e Plain.st0 #[] :=
  heap_alloc_new w _
theorem Rs.far {w : World} {b T : Nat} {s : ByteArray} {e : Nat} {st : Plain.St} {X : Array Value} (h : Rs w b T s e st X) {g i : Nat} (hg : b ≠ g) (v : Value) : Rs (w.setCell ⟨g, i, none⟩ v) b T s e st X := (Below.heap_setCell w ⟨g, i, none⟩ v b hg).trans h
theorem Blk.put {w : World} {g : Nat} {t : TypeId} {cs cs' : Array Value} (h : Blk w g t cs) (i : Nat) (u : Value) (he : cs.setIfInBounds i u = cs') : Blk (w.setCell ⟨g, i, none⟩ u) g t cs' := he ▸ h.set_ i u
end Go.Proofs.YteeekdffbcbamaaGreatDoor
