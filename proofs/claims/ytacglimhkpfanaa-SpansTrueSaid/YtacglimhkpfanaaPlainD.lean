/-
  PLAIN LAWS: a place and its time; later periods; what the program's draws select.
-/
import Derived.Test.YtacglimhkpfanaaPlain
import Derived.Test.YtacglimhkpfanaaPlainB
namespace Go.Proofs.Ytacglimhkpfanaa.Plain

theorem back (W pb m : Int) (h1 : 2 ≤ W) (h2 : W ≤ 10) (h3 : 1 ≤ pb) (h4 : pb ≤ 20) (h5 : 0 ≤ m) (h6 : m < 604800000) :
    plE W pb m = 0 ∧ tmE W pb (plF W pb m) (plB W pb m) (plP W pb m) = 0 ∧ tmV W pb (plF W pb m) (plB W pb m) (plP W pb m) = m := by
  have hp : planB W pb = true := by simp [planB]; omega
  have hB : pB W pb m = true := by simp [pB, hp]; omega
  have hE : plE W pb m = 0 := by simp [plE, hB]
  have e1 : plF W pb m = m / pb / (30 * W) := by simp [plF, hB]
  have e2 : plB W pb m = m / pb % (30 * W) := by simp [plB, hB]
  have e3 : plP W pb m = m % pb := by simp [plP, hB]
  rw [e1, e2, e3]
  have hq := Int.mul_ediv_add_emod m pb
  have hq2 := Int.mul_ediv_add_emod (m / pb) (30 * W)
  have r1 := Int.emod_nonneg m (b := pb) (by omega)
  have r2 := Int.emod_lt_of_pos m (b := pb) (by omega)
  have r3 := Int.emod_nonneg (m / pb) (b := 30 * W) (by omega)
  have r4 := Int.emod_lt_of_pos (m / pb) (b := 30 * W) (by omega)
  have d1 : 0 ≤ m / pb := Int.ediv_nonneg h5 (by omega)
  have d2 : 0 ≤ m / pb / (30 * W) := Int.ediv_nonneg d1 (by omega)
  have ht : tm W pb (m / pb / (30 * W)) (m / pb % (30 * W)) (m % pb) = m := by
    unfold tm
    rw [Int.mul_assoc (m / pb / (30 * W)) 30 W, Int.mul_comm (m / pb / (30 * W)) (30 * W), hq2, Int.mul_comm (m / pb) pb]
    exact hq
  have hT : tB W pb (m / pb / (30 * W)) (m / pb % (30 * W)) (m % pb) = true := by
    simp [tB, hp]
    omega
  refine ⟨hE, ?_, ?_⟩
  · unfold tmE
    rw [hT, ht]
    simp
    omega
  · unfold tmV
    rw [hT, ht]
    simp
    omega

/-- A length that is in range. -/
theorem len_ok (l rx p a m : Int) (h1 : 1 ≤ l) (h2 : l ≤ 8192) (h3 : -604800000 ≤ rx) (h4 : rx ≤ 1209600000) (hp : 1 ≤ p) (hp2 : p ≤ 2048) (ha : 0 ≤ a) (ha2 : a ≤ 1099511627776) (hm : 0 ≤ m) (hm2 : m < 604800000)
    (hN : lenN l rx a m ≤ 33000 * l) (hN2 : -33000 * l ≤ lenN l rx a m) : lenE l rx p a m = 0 ∧ lenV l rx p a m = lenZ l rx a m ∧ lenZ l rx a m ≤ 10000000000000 ∧ -10000000000000 ≤ lenZ l rx a m := by
  have hr : rngB l rx p a m = true := by simp [rngB, perB, chB]; omega
  have hz : lenZ l rx a m ≤ 10000000000000 ∧ -10000000000000 ≤ lenZ l rx a m := by
    unfold lenZ
    generalize lenN l rx a m = n at *
    by_cases h0 : 0 ≤ n
    · have u1 := near_hi (299792458 * n) l (299792458 * 33000) h1 (by omega) (by omega)
      have u2 := near_lo (299792458 * n) l 0 h1 (by omega) (by omega)
      omega
    · have e : 299792458 * n = -(299792458 * (-n)) := by omega
      rw [e, near_neg _ _ (by omega)]
      have u1 := near_hi (299792458 * -n) l (299792458 * 33000) h1 (by omega) (by omega)
      have u2 := near_lo (299792458 * -n) l 0 h1 (by omega) (by omega)
      omega
  have hf : fitB l rx a m = true := by simp [fitB]; omega
  exact ⟨by simp [lenE, hr, hf], by simp [lenV, hr, hf], hz.1, hz.2⟩
theorem N_of (l rx a m : Int) : lenN l rx a m = (rx - m) * l + a := rfl
theorem mul_bd (q l k : Int) (hl : 0 ≤ l) (h1 : -k ≤ q) (h2 : q ≤ k) : q * l ≤ k * l ∧ -(k * l) ≤ q * l := by
  have a1 := Int.mul_le_mul_of_nonneg_right h2 hl
  have a2 := Int.mul_le_mul_of_nonneg_right h1 hl
  rw [Int.neg_mul] at a2
  exact ⟨a1, a2⟩
/-- What SpansShifts asks of its three lengths. -/
theorem shifts_ok (l rx a m k : Int) (h1 : 1 ≤ l) (h2 : l ≤ 8192) (hm : 0 ≤ m) (hm2 : m < 1000000) (ha : 0 ≤ a) (ha2 : a < 10 * l) (hk : 0 ≤ k) (hk2 : k < 1000) (hr : m - 10000 ≤ rx) (hr2 : rx < m + 10000) :
    (lenE l rx 7 a m = 0 ∧ lenV l rx 7 a m = lenZ l rx a m ∧ lenZ l rx a m ≤ 10000000000000 ∧ -10000000000000 ≤ lenZ l rx a m) ∧
    (lenE l rx 7 (a + k * l) (m + k) = 0 ∧ lenV l rx 7 (a + k * l) (m + k) = lenZ l rx a m) ∧
    (lenE l (rx + 1) 7 a m = 0 ∧ lenV l (rx + 1) 7 a m = lenZ l (rx + 1) a m ∧ lenZ l (rx + 1) a m ≤ 10000000000000 ∧ -10000000000000 ≤ lenZ l (rx + 1) a m) := by
  have b1 := mul_bd (rx - m) l 10000 (by omega) (by omega) (by omega)
  have b3 := mul_bd (rx + 1 - m) l 10001 (by omega) (by omega) (by omega)
  have b4 := mul_bd k l 1000 (by omega) (by omega) (by omega)
  have b5 : 0 ≤ k * l := Int.mul_nonneg hk (by omega)
  refine ⟨len_ok l rx 7 a m h1 h2 (by omega) (by omega) (by omega) (by omega) ha (by omega) hm (by omega) (by rw [N_of]; omega) (by rw [N_of]; omega), ?_,
    len_ok l (rx + 1) 7 a m h1 h2 (by omega) (by omega) (by omega) (by omega) ha (by omega) hm (by omega) (by rw [N_of]; omega) (by rw [N_of]; omega)⟩
  have h := len_ok l rx 7 (a + k * l) (m + k) h1 h2 (by omega) (by omega) (by omega) (by omega) (by omega) (by omega) (by omega) (by omega) (by rw [N_later, N_of]; omega) (by rw [N_later, N_of]; omega)
  rw [Z_later] at h
  exact ⟨h.1, h.2.1⟩

/-- What SpansTrue asks. -/
theorem true_ok (l over d ms wrong : Int) (h1 : 1 ≤ l) (h2 : l ≤ 8192) (ho : 1 ≤ over) (ho2 : over ≤ 8) (hd : 0 ≤ d) (hd2 : d ≤ 100000000000) (hm : 100 ≤ ms) (hm2 : ms < 1000100) (hw : -(over - 1) ≤ wrong) (hw2 : wrong ≤ over - 1) :
    bndE l over = 0 ∧ bndV l over = bnd l over ∧ 0 ≤ bnd l over ∧ bnd l over ≤ 2398339666 ∧
    lenE l (ms - 100) 3 (100 * l + d / 299792458 * l + d % 299792458 * l / 299792458 + wrong) ms = 0 ∧
    lenV l (ms - 100) 3 (100 * l + d / 299792458 * l + d % 299792458 * l / 299792458 + wrong) ms = near (299792458 * trueN l d wrong) l ∧
    near (299792458 * trueN l d wrong) l - d ≤ bnd l over ∧ d - near (299792458 * trueN l d wrong) l ≤ bnd l over ∧
    0 ≤ d / 299792458 * l ∧ d / 299792458 * l ≤ 2736128 ∧ 0 ≤ d % 299792458 * l ∧ d % 299792458 * l ≤ 2455899815936 ∧ 0 ≤ d % 299792458 * l / 299792458 ∧ d % 299792458 * l / 299792458 ≤ 8192 := by
  have q1 : 0 ≤ d / 299792458 := by omega
  have q2 : d / 299792458 ≤ 333 := by omega
  have q3 : 0 ≤ d % 299792458 := by omega
  have q4 : d % 299792458 ≤ 299792457 := by omega
  have a1 := Int.mul_le_mul_of_nonneg_right q2 (show 0 ≤ l by omega)
  have a2 : 0 ≤ d / 299792458 * l := Int.mul_nonneg q1 (by omega)
  have a3 := Int.mul_le_mul_of_nonneg_right q4 (show 0 ≤ l by omega)
  have a4 : 0 ≤ d % 299792458 * l := Int.mul_nonneg q3 (by omega)
  have hb := bnd_hi l over h1 ho ho2
  have ht := true_err l over d wrong h1 hw hw2
  have hN : lenN l (ms - 100) (100 * l + d / 299792458 * l + d % 299792458 * l / 299792458 + wrong) ms = trueN l d wrong := by
    unfold lenN trueN
    rw [show ms - 100 - ms = -100 by omega]
    omega
  have hlN : trueN l d wrong ≤ 33000 * l ∧ -33000 * l ≤ trueN l d wrong := by
    unfold trueN
    omega
  have ho3 : ovB l over = true := by simp [ovB, perB]; omega
  have h := len_ok l (ms - 100) 3 (100 * l + d / 299792458 * l + d % 299792458 * l / 299792458 + wrong) ms h1 h2 (by omega) (by omega) (by omega) (by omega) (by omega) (by omega) (by omega) (by omega) (by rw [hN]; exact hlN.1) (by rw [hN]; exact hlN.2)
  refine ⟨by simp [bndE, ho3], by simp [bndV, ho3], hb.1, hb.2, h.1, ?_, ht.1, ht.2, a2, by omega, a4, by omega, by omega, by omega⟩
  rw [h.2.1]
  unfold lenZ
  rw [hN]
theorem tmod_neg (x n : Int) (hx : x < 0) (hn : 1 ≤ n) : -n < x.tmod n ∧ x.tmod n ≤ 0 ∧ (x.tmod n < 0 → x % n = x.tmod n + n) ∧ (¬ x.tmod n < 0 → x % n = x.tmod n) := by
  have e : x.tmod n = -((-x) % n) := by
    have h1 : (-(-x)).tmod n = -((-x).tmod n) := Int.neg_tmod _ _
    rw [Int.neg_neg] at h1
    rw [h1, Int.tmod_eq_emod_of_nonneg (by omega)]
  have r1 := Int.emod_nonneg (-x) (b := n) (by omega)
  have r2 := Int.emod_lt_of_pos (-x) (b := n) (by omega)
  have d1 := Int.mul_ediv_add_emod (-x) n
  rw [e]
  refine ⟨by omega, by omega, fun h => ?_, fun h => ?_⟩
  · have : x = n * (-((-x) / n) - 1) + (n - (-x) % n) := by
      rw [Int.mul_sub, Int.mul_neg, Int.mul_one]; omega
    rw [this, Int.mul_add_emod_self_left, Int.emod_eq_of_lt (by omega) (by omega)]
    rw [← this]; omega
  · have hz : (-x) % n = 0 := by omega
    have : x = n * (-((-x) / n)) := by rw [Int.mul_neg]; omega
    rw [hz, this, Int.mul_emod_right]; rfl
end Go.Proofs.Ytacglimhkpfanaa.Plain
