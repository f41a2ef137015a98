/-
  WALKS: the reference's Line: what the ways share.
-/
import Derived.Test.YteeekdffbcbamaaGreatDoorRChkZ
import Derived.Test.YteeekdffbcbamaaGreatDoorRDec
import Derived.Test.YteeekdffbcbamaaGreatDoorLineZ
import Derived.Deep.RegionHeld3
import Derived.Laws.Concat
namespace Go.Proofs.YteeekdffbcbamaaGreatDoor
open Go.RowKit
theorem keepX {g : Nat} {T : TypeId} {cs : Array Value} {w W W' : World} {Q : Prop} (hb : Below W.heap.size W W') (h : (Below w.heap.size w W ∧ Blk W g T cs) ∧ Q) : Below w.heap.size w W' ∧ Blk W' g T cs :=
  ⟨h.1.1.trans (hb.mono h.1.1.size), h.1.2.below hb h.1.2.lt⟩
section
variable {B g : Nat} {T : TypeId} {w W : World} {c0 c1 c2 c3 c4 c5 c6 c7 c8 c9 c10 c11 c12 c13 : Value}
theorem snS3 (h : Below B w W ∧ Blk W g T #[c0, c1, c2, c3, c4, c5, c6, c7, c8, c9, c10, c11, c12, c13]) : (Below B w W ∧ Blk W g T #[c0, c1, c2, c3, c4, c5, c6, c7, c8, c9, c10, c11, c12, c13]) ∧ W.cell? ⟨g, 1, none⟩ = some c1 ∧ W.cell? ⟨g, 13, none⟩ = some c13 :=
  ⟨h, h.2.cell 1, h.2.cell 13⟩
theorem snS2 (h : Below B w W ∧ Blk W g T #[c0, c1, c2, c3, c4, c5, c6, c7, c8, c9, c10, c11, c12, c13]) : (Below B w W ∧ Blk W g T #[c0, c1, c2, c3, c4, c5, c6, c7, c8, c9, c10, c11, c12, c13]) ∧ W.cell? ⟨g, 1, none⟩ = some c1 ∧ W.cell? ⟨g, 2, none⟩ = some c2 ∧ W.cell? ⟨g, 10, none⟩ = some c10 ∧ W.cell? ⟨g, 11, none⟩ = some c11 ∧ W.cell? ⟨g, 12, none⟩ = some c12 :=
  ⟨h, h.2.cell 1, h.2.cell 2, h.2.cell 10, h.2.cell 11, h.2.cell 12⟩
theorem snS1 (h : Below B w W ∧ Blk W g T #[c0, c1, c2, c3, c4, c5, c6, c7, c8, c9, c10, c11, c12, c13]) : (Below B w W ∧ Blk W g T #[c0, c1, c2, c3, c4, c5, c6, c7, c8, c9, c10, c11, c12, c13]) ∧ W.cell? ⟨g, 1, none⟩ = some c1 ∧ W.cell? ⟨g, 2, none⟩ = some c2 :=
  ⟨h, h.2.cell 1, h.2.cell 2⟩
end
end Go.Proofs.YteeekdffbcbamaaGreatDoor
