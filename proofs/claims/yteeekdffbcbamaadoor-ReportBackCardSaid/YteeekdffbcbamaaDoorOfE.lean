/-
  WALKS, joined: a valid sentence that numbers select (skyfixlaw41.of).
-/
import Derived.Test.YteeekdffbcbamaaDoorOfC
import Derived.Test.YteeekdffbcbamaaDoorOfD
namespace Go.Proofs.YteeekdffbcbamaaDoor
open Go.RowKit

theorem of_any (l : List Int) (A : Option Addr) (n c : Nat) (kind : Int) (w : World) (hn : l.length = n) (hN : PrL w A l) :
    Calls Tryd.prog 13 #[.slice A n c, .int .i64 kind] w (OfPost w) := by
  have h : kind % 3 = 0 ∨ kind % 3 = 1 ∨ kind % 3 = 2 := by omega
  rcases h with h | h | h
  · exact of_fix l A n c kind w hn hN h
  · exact of_sat l A n c kind w hn hN h
  · exact of_txt l A n c kind w hn hN h
end Go.Proofs.YteeekdffbcbamaaDoor
