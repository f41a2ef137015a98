/-
  PLAIN ARITHMETIC of pseudoranges: rounded quotients, the length of a channel, its bound. No program in sight.
-/
namespace Go.Proofs.Ytacglimhkpfanaa.Plain
def near (n d : Int) : Int := if n < 0 then -((2 * (-n) + d) / (2 * d)) else (2 * n + d) / (2 * d)

def chB (p a m : Int) : Bool := decide (1 ≤ p) && decide (p ≤ 2048) && decide (0 ≤ a) && decide (a ≤ 1099511627776) && decide (0 ≤ m) && decide (m < 604800000)
def chE (p a m : Int) : Int := if chB p a m then 0 else 2
def perB (l : Int) : Bool := decide (1 ≤ l) && decide (l ≤ 8192)

/-- what Length answers: the length and the error -/
def lenN (l rx a m : Int) : Int := (rx - m) * l + a
def lenZ (l rx a m : Int) : Int := near (299792458 * lenN l rx a m) l

def fitB (l rx a m : Int) : Bool := decide (lenZ l rx a m ≤ 10000000000000) && decide (-10000000000000 ≤ lenZ l rx a m)
def rngB (l rx p a m : Int) : Bool := perB l && decide (-604800000 ≤ rx) && decide (rx ≤ 1209600000) && chB p a m
/-- what Length returns: the length, and the error -/
def lenV (l rx p a m : Int) : Int := if rngB l rx p a m && fitB l rx a m then lenZ l rx a m else 0
def lenE (l rx p a m : Int) : Int := if rngB l rx p a m then (if fitB l rx a m then 0 else 5) else 2

theorem near_lo (n d k : Int) (hd : 1 ≤ d) (hk : 0 ≤ k) (h : k * d ≤ n) : k ≤ near n d := by
  have h0 : 0 ≤ k * d := Int.mul_nonneg hk (by omega)
  unfold near
  rw [if_neg (by omega)]
  rw [Int.le_ediv_iff_mul_le (by omega)]
  have : k * (2 * d) = 2 * (k * d) := by rw [← Int.mul_assoc, Int.mul_comm k 2, Int.mul_assoc]
  omega
theorem near_neg (n d : Int) (h : 0 < n) : near (-n) d = - near n d := by
  unfold near
  rw [if_pos (by omega), if_neg (by omega), Int.neg_neg]
theorem near_hi (n d k : Int) (hd : 1 ≤ d) (h0 : 0 ≤ n) (h : n ≤ k * d) : near n d ≤ k := by
  unfold near
  rw [if_neg (by omega)]
  have h2 : (2 * n + d) / (2 * d) < k + 1 := by
    rw [Int.ediv_lt_iff_lt_mul (by omega)]
    have : (k + 1) * (2 * d) = 2 * (k * d) + 2 * d := by
      rw [Int.add_mul, ← Int.mul_assoc, Int.mul_comm k 2, Int.mul_assoc]; omega
    omega
  omega

theorem whole_eq (l rx a m : Int) : (rx - m + a / l) * l + a % l = lenN l rx a m := by
  unfold lenN
  have h := Int.mul_ediv_add_emod a l
  rw [Int.add_mul, Int.mul_comm (a / l) l]; omega

/-- within: the whole is small -/
theorem whole_small (l rx a m : Int) (hl : 1 ≤ l) (h1 : lenN l rx a m ≤ 34000 * l) (h2 : -34000 * l ≤ lenN l rx a m) :
    rx - m + a / l ≤ 34000 ∧ -34001 ≤ rx - m + a / l := by
  have h := whole_eq l rx a m
  have r1 := Int.emod_nonneg a (b := l) (by omega)
  have r2 := Int.emod_lt_of_pos a (b := l) (by omega)
  generalize rx - m + a / l = q at *
  constructor
  · refine Int.not_lt.1 fun hc => ?_
    have := Int.mul_le_mul_of_nonneg_right (show 34001 ≤ q by omega) (show 0 ≤ l by omega)
    omega
  · refine Int.not_lt.1 fun hc => ?_
    have := Int.mul_le_mul_of_nonneg_right (show q ≤ -34002 by omega) (show 0 ≤ l by omega)
    omega
theorem len_big (l rx a m : Int) (hl : 1 ≤ l) (h : 34000 * l < lenN l rx a m) : 10000000000000 < lenZ l rx a m := by
  unfold lenZ
  have := near_lo (299792458 * lenN l rx a m) l (299792458 * 34000) hl (by omega) (by omega)
  omega
theorem len_small (l rx a m : Int) (hl : 1 ≤ l) (h : lenN l rx a m < -34000 * l) : lenZ l rx a m < -10000000000000 := by
  unfold lenZ
  have e : 299792458 * lenN l rx a m = -(299792458 * (-lenN l rx a m)) := by omega
  rw [e, near_neg _ _ (by omega)]
  have := near_lo (299792458 * (-lenN l rx a m)) l (299792458 * 34000) hl (by omega) (by omega)
  omega
/-- the bounds that keep ints -/
theorem whole_bd (l rx a m : Int) (hl : 1 ≤ l) (hl2 : l ≤ 8192) (h1 : rx - m + a / l ≤ 40000) (h2 : -40000 ≤ rx - m + a / l) :
    (rx - m + a / l) * l ≤ 327680000 ∧ -327680000 ≤ (rx - m + a / l) * l := by
  generalize rx - m + a / l = q at *
  constructor
  · have := Int.mul_le_mul_of_nonneg_right h1 (show 0 ≤ l by omega); omega
  · have := Int.mul_le_mul_of_nonneg_right h2 (show 0 ≤ l by omega); omega
theorem N_bd (l rx m : Int) (hl : 1 ≤ l) (hl2 : l ≤ 8192) (hr : -604800000 ≤ rx) (hr2 : rx ≤ 1209600000) (hm : 0 ≤ m) (hm2 : m < 604800000) :
    (rx - m) * l ≤ 9909043200000 ∧ -9909043200000 ≤ (rx - m) * l := by
  have h1 : rx - m ≤ 1209600000 := by omega
  have h2 : -1209600000 ≤ rx - m := by omega
  generalize rx - m = q at *
  constructor
  · have := Int.mul_le_mul_of_nonneg_right h1 (show 0 ≤ l by omega); omega
  · have := Int.mul_le_mul_of_nonneg_right h2 (show 0 ≤ l by omega); omega

theorem near_bd (n d : Int) (h0 : 0 ≤ n) (h1 : n ≤ 1000000000000000000) (hd : 1 ≤ d) : 0 ≤ near n d ∧ near n d ≤ 1000000000000000000 := by
  have a := near_lo n d 0 hd (by omega) (by omega)
  have b := near_hi n d 1000000000000000000 hd h0 (by omega)
  exact ⟨a, b⟩
/-- nearest: twice the rest is at most d -/
theorem near_err (n d : Int) (hd : 1 ≤ d) : 2 * (d * near n d) ≤ 2 * n + d ∧ 2 * n - d ≤ 2 * (d * near n d) := by
  have key : ∀ k : Int, 2 * (d * ((2 * k + d) / (2 * d))) ≤ 2 * k + d ∧ 2 * k - d < 2 * (d * ((2 * k + d) / (2 * d))) := by
    intro k
    have h := Int.mul_ediv_add_emod (2 * k + d) (2 * d)
    have r1 := Int.emod_nonneg (2 * k + d) (b := 2 * d) (by omega)
    have r2 := Int.emod_lt_of_pos (2 * k + d) (b := 2 * d) (by omega)
    rw [Int.mul_assoc] at h
    omega
  unfold near
  split
  · have := key (-n)
    rw [Int.mul_neg]
    omega
  · have := key n
    omega
theorem near_add (n d k : Int) (hd : 1 ≤ d) (h : 0 ≤ n) (hk : 0 ≤ k) : near (n + k * d) d = near n d + k := by
  have h0 : 0 ≤ k * d := Int.mul_nonneg hk (by omega)
  unfold near
  rw [if_neg (by omega), if_neg (by omega)]
  have e : 2 * (n + k * d) + d = (2 * n + d) + k * (2 * d) := by
    have : k * (2 * d) = 2 * (k * d) := by rw [← Int.mul_assoc, Int.mul_comm k 2, Int.mul_assoc]
    omega
  rw [e, Int.add_mul_ediv_right _ _ (by omega)]
theorem near_add_neg (n d k : Int) (hd : 1 ≤ d) (hk : 0 ≤ k) (h : n + k * d ≤ 0) (h1 : n < 0) : near (n + k * d) d = near n d + k := by
  have e : n = -((-(n + k * d)) + k * d) := by omega
  have h2 := near_add (-(n + k * d)) d k hd (by omega) hk
  have h3 : near n d = -(near (-(n + k * d)) d + k) := by
    rw [← h2]
    rw [← near_neg _ _ (by omega)]
    congr 1
  rw [h3]
  by_cases hz : n + k * d = 0
  · rw [hz]
    have : near 0 d = 0 := by
      unfold near
      rw [if_neg (by omega), Int.mul_zero, Int.zero_add]
      exact Int.ediv_eq_zero_of_lt (by omega) (by omega)
    rw [Int.neg_zero, this]; omega
  · have h4 := near_neg (-(n + k * d)) d (by omega)
    rw [Int.neg_neg] at h4
    rw [h4]; omega

theorem Z_pos (l rx a m : Int) (h : 0 ≤ (rx - m) * l + a) : lenZ l rx a m = (2 * ((rx - m) * l + a) * 299792458 + l) / (2 * l) := by
  unfold lenZ near lenN
  rw [if_neg (by omega)]
  congr 1
  omega
theorem Z_neg (l rx a m : Int) (h : (rx - m) * l + a < 0) : lenZ l rx a m = -((2 * -((rx - m) * l + a) * 299792458 + l) / (2 * l)) := by
  unfold lenZ near lenN
  rw [if_pos (by omega)]
  congr 2
  omega
theorem Z_bd (l rx a m : Int) (hl : 1 ≤ l) (h1 : (rx - m) * l + a ≤ 34000 * l) (h2 : -34000 * l ≤ (rx - m) * l + a) : lenZ l rx a m ≤ 1000000000000000 ∧ -1000000000000000 ≤ lenZ l rx a m := by
  unfold lenZ lenN
  generalize (rx - m) * l + a = n at *
  have := near_err (299792458 * n) l hl
  generalize near (299792458 * n) l = z at *
  constructor
  · refine Int.not_lt.1 fun hc => ?_
    have := Int.mul_le_mul_of_nonneg_left (show 1000000000000000 ≤ z by omega) (show 0 ≤ l by omega)
    omega
  · refine Int.not_lt.1 fun hc => ?_
    have := Int.mul_le_mul_of_nonneg_left (show z ≤ -1000000000000000 by omega) (show 0 ≤ l by omega)
    omega
theorem N_later (l rx a m k : Int) : lenN l rx (a + k * l) (m + k) = lenN l rx a m := by
  unfold lenN
  have : rx - (m + k) = (rx - m) - k := by omega
  rw [this, Int.sub_mul]; omega
theorem N_next (l rx a m : Int) : lenN l (rx + 1) a m = lenN l rx a m + l := by
  unfold lenN
  have : rx + 1 - m = (rx - m) + 1 := by omega
  rw [this, Int.add_mul]; omega
theorem Z_later (l rx a m k : Int) : lenZ l rx (a + k * l) (m + k) = lenZ l rx a m := by
  unfold lenZ; rw [N_later]

/-- SpansShifts' last part -/
theorem shifts (l rx a m : Int) (hl : 1 ≤ l) (hl2 : l ≤ 8192) :
    lenZ l (rx + 1) a m - lenZ l rx a m = 299792458 ∨ (lenZ l rx a m < 0 ∧ 0 < lenZ l (rx + 1) a m ∧ 299792457 ≤ lenZ l (rx + 1) a m - lenZ l rx a m ∧ lenZ l (rx + 1) a m - lenZ l rx a m ≤ 299792459) := by
  unfold lenZ
  rw [N_next]
  generalize lenN l rx a m = n
  have e : 299792458 * (n + l) = 299792458 * n + 299792458 * l := by omega
  by_cases h0 : 0 ≤ n
  · left
    rw [e, near_add _ _ _ hl (by omega) (by omega)]; omega
  · by_cases h1 : n + l ≤ 0
    · left
      rw [e, near_add_neg _ _ _ hl (by omega) (by omega) (by omega)]; omega
    · right
      have ha := near_err (299792458 * n) l hl
      have hb := near_err (299792458 * (n + l)) l hl
      have hx : near (299792458 * n) l < 0 := by
        have := near_lo (299792458 * (-n)) l 1 hl (by omega) (by omega)
        have h2 := near_neg (299792458 * (-n)) l (by omega)
        have e2 : -(299792458 * -n) = 299792458 * n := by omega
        rw [e2] at h2; omega
      have hz : 0 < near (299792458 * (n + l)) l := by
        have := near_lo (299792458 * (n + l)) l 1 hl (by omega) (by omega)
        omega
      generalize near (299792458 * n) l = x at *
      generalize near (299792458 * (n + l)) l = z at *
      have hs : l * z - l * x = l * (z - x) := (Int.mul_sub l z x).symm
      refine ⟨hx, hz, ?_, ?_⟩
      · refine Int.not_lt.1 fun hc => ?_
        have := Int.mul_le_mul_of_nonneg_left (show z - x ≤ 299792456 by omega) (show 0 ≤ l by omega)
        omega
      · refine Int.not_lt.1 fun hc => ?_
        have := Int.mul_le_mul_of_nonneg_left (show 299792460 ≤ z - x by omega) (show 0 ≤ l by omega)
        omega

def bnd (l over : Int) : Int := (over * 299792458 + l - 1) / l + 1
theorem bnd_ge (l over : Int) (hl : 1 ≤ l) : over * 299792458 ≤ l * (bnd l over - 1) := by
  unfold bnd
  have h := Int.mul_ediv_add_emod (over * 299792458 + l - 1) l
  have r2 := Int.emod_lt_of_pos (over * 299792458 + l - 1) (b := l) (by omega)
  have : (over * 299792458 + l - 1) / l + 1 - 1 = (over * 299792458 + l - 1) / l := by omega
  rw [this]; omega
theorem bnd_hi (l over : Int) (hl : 1 ≤ l) (ho : 1 ≤ over) (ho2 : over ≤ 8) : 0 ≤ bnd l over ∧ bnd l over ≤ 2398339666 := by
  unfold bnd
  constructor
  · have : 0 ≤ (over * 299792458 + l - 1) / l := Int.ediv_nonneg (by omega) (by omega)
    omega
  · have : (over * 299792458 + l - 1) / l < 2398339665 := by
      rw [Int.ediv_lt_iff_lt_mul (by omega)]
      omega
    omega

/-- SpansTrue's place -/
def trueN (l d wrong : Int) : Int := d / 299792458 * l + d % 299792458 * l / 299792458 + wrong
theorem true_err (l over d wrong : Int) (hl : 1 ≤ l) (h1 : -(over - 1) ≤ wrong) (h2 : wrong ≤ over - 1) :
    near (299792458 * trueN l d wrong) l - d ≤ bnd l over ∧ d - near (299792458 * trueN l d wrong) l ≤ bnd l over := by
  have hn := near_err (299792458 * trueN l d wrong) l hl
  have hb := bnd_ge l over hl
  have hd : d = 299792458 * (d / 299792458) + d % 299792458 := by omega
  have hdl : l * d = 299792458 * (d / 299792458 * l) + d % 299792458 * l := by
    conv => lhs; rw [hd]
    rw [Int.mul_add, Int.mul_comm l (d % 299792458), ← Int.mul_assoc, Int.mul_comm l 299792458, Int.mul_assoc, Int.mul_comm l (d / 299792458)]
  unfold trueN at *
  generalize d / 299792458 * l = A at *
  generalize d % 299792458 * l = B at *
  generalize near (299792458 * (A + B / 299792458 + wrong)) l = x at *
  have e1 : l * (x - d) = l * x - l * d := Int.mul_sub l x d
  have e2 : l * (bnd l over - 1) = l * bnd l over - l := by rw [Int.mul_sub, Int.mul_one]
  constructor
  · refine Int.not_lt.1 fun hc => ?_
    have := Int.mul_le_mul_of_nonneg_left (show bnd l over + 1 ≤ x - d by omega) (show 0 ≤ l by omega)
    rw [Int.mul_add, Int.mul_one] at this
    omega
  · refine Int.not_lt.1 fun hc => ?_
    have := Int.mul_le_mul_of_nonneg_left (show bnd l over + 1 ≤ d - x by omega) (show 0 ≤ l by omega)
    rw [Int.mul_add, Int.mul_one] at this
    have e3 : l * (d - x) = l * d - l * x := Int.mul_sub l d x
    omega
end Go.Proofs.Ytacglimhkpfanaa.Plain
