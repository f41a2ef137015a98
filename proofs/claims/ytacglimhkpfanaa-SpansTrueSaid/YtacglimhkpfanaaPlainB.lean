/-
  PLAIN: what Bound, Time, Place answer.
-/
import Derived.Test.YtacglimhkpfanaaPlain
namespace Go.Proofs.Ytacglimhkpfanaa.Plain

def ovB (l over : Int) : Bool := perB l && decide (1 ≤ over) && decide (over ≤ 8)
def bndV (l over : Int) : Int := if ovB l over then bnd l over else 0
def bndE (l over : Int) : Int := if ovB l over then 0 else 2

def planB (words perbit : Int) : Bool := decide (2 ≤ words) && decide (words ≤ 10) && decide (1 ≤ perbit) && decide (perbit ≤ 20)
def tB (words perbit f b p : Int) : Bool := planB words perbit && decide (0 ≤ f) && decide (0 ≤ b) && decide (b < 30 * words) && decide (0 ≤ p) && decide (p < perbit)
def tm (words perbit f b p : Int) : Int := (f * 30 * words + b) * perbit + p
def tmV (words perbit f b p : Int) : Int := if tB words perbit f b p && decide (tm words perbit f b p < 604800000) then tm words perbit f b p else 0
def tmE (words perbit f b p : Int) : Int := if tB words perbit f b p then (if tm words perbit f b p < 604800000 then 0 else 5) else 2

def pB (words perbit ms : Int) : Bool := planB words perbit && decide (0 ≤ ms) && decide (ms < 604800000)
def plF (words perbit ms : Int) : Int := if pB words perbit ms then ms / perbit / (30 * words) else 0
def plB (words perbit ms : Int) : Int := if pB words perbit ms then ms / perbit % (30 * words) else 0
def plP (words perbit ms : Int) : Int := if pB words perbit ms then ms % perbit else 0
def plE (words perbit ms : Int) : Int := if pB words perbit ms then 0 else 2

theorem tm_big (words perbit f b p : Int) (hw : 2 ≤ words) (hp : 1 ≤ perbit) (hb : 0 ≤ b) (h0 : 0 ≤ p) (hf : 604800000 ≤ f) : 604800000 ≤ tm words perbit f b p := by
  unfold tm
  have h1 : f * 30 * 2 ≤ f * 30 * words := Int.mul_le_mul_of_nonneg_left hw (by omega)
  have h2 : (f * 30 * words + b) * 1 ≤ (f * 30 * words + b) * perbit := Int.mul_le_mul_of_nonneg_left hp (by omega)
  omega
theorem tm_bd (words perbit f b : Int) (hw : 2 ≤ words) (hw2 : words ≤ 10) (hp : 1 ≤ perbit) (hp2 : perbit ≤ 20) (hb : 0 ≤ b) (hb2 : b < 30 * words) (hf : 0 ≤ f) (hf2 : f ≤ 604800000) :
    0 ≤ f * 30 * words ∧ f * 30 * words ≤ 181440000000 ∧ 0 ≤ (f * 30 * words + b) * perbit ∧ (f * 30 * words + b) * perbit ≤ 4000000000000 := by
  have h0 : 0 ≤ f * 30 * words := Int.mul_nonneg (by omega) (by omega)
  have h1 : f * 30 * words ≤ f * 30 * 10 := Int.mul_le_mul_of_nonneg_left hw2 (by omega)
  have h3 : 0 ≤ (f * 30 * words + b) * perbit := Int.mul_nonneg (by omega) (by omega)
  have h2 : (f * 30 * words + b) * perbit ≤ (f * 30 * words + b) * 20 := Int.mul_le_mul_of_nonneg_left hp2 (by omega)
  omega
end Go.Proofs.Ytacglimhkpfanaa.Plain
