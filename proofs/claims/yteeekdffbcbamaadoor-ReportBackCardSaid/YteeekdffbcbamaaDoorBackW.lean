/-
  WALKS: the law ReportBack.
-/
import Derived.Test.YteeekdffbcbamaaDoorOfE
import Derived.Test.YteeekdffbcbamaaDoorPlainU
import Derived.Test.YteeekdffbcbamaaDoorG7
import Derived.IntWalk
import Derived.StillTactics
import Derived.Laws.IdiomStrings
namespace Go.Proofs.YteeekdffbcbamaaDoor
open Go.RowKit

theorem Plain.zero_small {x : Plain.Sn} (h : Plain.checkE x = 0) : x.text.size ≤ 80 ∧ x.prns.length ≤ 16 := by
  rcases Plain.zero_kind h with hk | hk | hk
  · obtain ⟨⟨_, _, _, h4⟩, _, h3, _⟩ := Plain.zero_1 h hk
    refine ⟨?_, h3⟩
    rw [← Plain.len_size, h4]
    exact Nat.zero_le _
  · obtain ⟨⟨_, _, _, _, _, _, h7, h8⟩, _⟩ := Plain.zero_2 h hk
    refine ⟨?_, by rw [h7]; exact Nat.zero_le _⟩
    rw [← Plain.len_size, h8]
    exact Nat.zero_le _
  · obtain ⟨⟨_, _, _, _, _, _, _, h8, _⟩, h9⟩ := Plain.zero_3 h hk
    refine ⟨?_, by rw [h8]; exact Nat.zero_le _⟩
    rw [← Plain.len_size]
    exact (Plain.text_le h9).1
theorem lineR_ok {x : Plain.Sn} (h : Plain.checkE x = 0) : lineR x = (lineB x, 0) := by
  unfold lineR
  rw [if_pos h]
theorem byte_at {s : ByteArray} {i : Nat} {c : UInt8} (h : s.data.toList[i]? = some c) (hi : i < s.size) (z : Nat) (hz : c.toNat = z) : ((s[i]'hi).toNat : Int) = z := by
  have h2 : i < s.data.toList.length := by rw [Plain.len_size]; exact hi
  rw [List.getElem?_eq_getElem h2] at h
  have h3 : s.data.toList[i] = c := by simpa using h
  have h4 : s[i]'hi = c := by rw [← h3]; rfl
  rw [h4, hz]
theorem hexC_hexB {v : Nat} (h : v < 16) (hv : v < hexB.size) : (Plain.hexC v).toNat = (hexB[v]'hv).toNat := by
  have : ∀ v : Fin 16, (Plain.hexC v.val).toNat = (hexB[v.val]'v.isLt).toNat := by decide
  exact this ⟨v, h⟩
theorem u8_in (z : Int) (h0 : 0 ≤ z) (h1 : z < 256) : IntKind.u8.wrap z = z := by
  simp [IntKind.wrap, IntKind.bits, IntKind.signed]
  omega
theorem xor_u8 (a : UInt8) (z : Int) (h0 : 0 ≤ z) (h1 : z < 256) : bits .xor .u8 (a.toNat : Int) z = (((a ^^^ UInt8.ofNat z.toNat).toNat : Nat) : Int) := by
  have e : (UInt8.ofNat z.toNat).toNat = z.toNat := by rw [UInt8.toNat_ofNat']; omega
  obtain ⟨n, rfl⟩ : ∃ n : Nat, z = n := ⟨z.toNat, by omega⟩
  rw [UInt8.toNat_xor, e, Int.toNat_natCast]
  have ha := a.toNat_lt
  have hx : a.toNat ^^^ n < 2 ^ 8 := Nat.xor_lt_two_pow (by omega) (by omega)
  have hb : ∀ k : Nat, k < 256 → (BitVec.ofInt 8 (k : Int)).toNat = k := by
    intro k hk
    simp
    omega
  show IntKind.u8.wrap ((BitVec.ofInt 8 (a.toNat : Int) ^^^ BitVec.ofInt 8 (n : Int)).toNat : Int) = _
  rw [BitVec.toNat_xor, hb a.toNat (by omega), hb n (by omega)]
  exact u8_in _ (by omega) (by omega)
/-- Bytes that lie in cells. -/
def BB (W : World) (g : Nat) (l : List UInt8) : Prop := (∀ j (h : j < l.length), W.cell? ⟨g, j, none⟩ = some (.int .u8 (l[j].toNat : Int))) ∧ ∀ j, j < l.length → W.frozen? ⟨g, j, none⟩ = false
theorem bytes_block (W : World) (s : ByteArray) (cap : Nat) (t : TypeId) : BB ((W.alloc (.cells (bytesRow s cap) t ((bytesRow s cap).size, (bytesRow s cap).size + 1))).drew) W.heap.size s.data.toList := by
  have hh : (W.alloc (.cells (bytesRow s cap) t ((bytesRow s cap).size, (bytesRow s cap).size + 1))).heap[W.heap.size]? = some (.cells (bytesRow s cap) t ((bytesRow s cap).size, (bytesRow s cap).size + 1)) := heap_alloc_new W _
  have hz : ∀ j, j < s.data.toList.length → j < (bytesRow s cap).size := by
    intro j hj
    unfold bytesRow
    rw [Array.size_append, Array.size_map]
    have : j < s.data.size := by simpa using hj
    omega
  constructor
  · intro j hj
    refine (cell_of_row _ _ j _ t _ hh).trans ?_
    have h2 : j < s.data.size := by simpa using hj
    unfold bytesRow
    rw [Array.getElem?_append_left (by rw [Array.size_map]; exact h2), Array.getElem?_map, Array.getElem?_eq_getElem h2]
    simp
  · intro j hj
    have := hz j hj
    show (W.alloc _).frozen? ⟨W.heap.size, j, none⟩ = false
    unfold World.frozen?
    simp only [hh]
    simp
    omega
theorem BB.set {W : World} {g : Nat} {l : List UInt8} (h : BB W g l) (k : Nat) (hk : k < l.length) (c : UInt8) : BB (W.setCell ⟨g, k, none⟩ (.int .u8 (c.toNat : Int))) g (l.set k c) := by
  constructor
  · intro j hj
    rw [List.length_set] at hj
    by_cases e : k = j
    · subst e
      rw [List.getElem_set_self]
      exact World.cell?_setCell_same' _ _ _ (by rw [h.1 k hk]; rfl)
    · rw [List.getElem_set_ne e]
      exact (World.cell?_setCell_other _ _ _ _ (by intro he; injection he; omega)).trans (h.1 j hj)
  · intro j hj
    rw [List.length_set] at hj
    rw [World.frozen?_setCell]
    exact h.2 j hj
theorem back_bytes (W : World) (g cp n : Nat) (l : List UInt8) (hl : l.length = n) (h : BB W g l) : (convert 45 9 (.slice (some ⟨g, 0, none⟩) n cp)).run Tryd.prog W = .ok (.string ⟨l.toArray⟩) W := by
  subst hl
  exact run_convert_bytes_back (P := Tryd.prog) W 45 9 5 ⟨g, 0, none⟩ cp l Tryd.underlying45 Tryd.underlying5 Tryd.underlying9 (fun j hj => by
    have e : (⟨g, 0, none⟩ : Addr).add j = ⟨g, j, none⟩ := by simp [Addr.add]; exact Eq.symm
    rw [e]
    exact h.1 j hj)
set_option maxRecDepth 100000 in
set_option maxHeartbeats 4000000 in
theorem back_of (l : List Int) (A : Option Addr) (n c : Nat) (kind at' by' : Int) (w : World) (he : Env w) (hn : l.length = n) (hN : PrL w A l) :
    Calls Tryd.prog 4 #[.slice A n c, .int .i64 kind, .int .i64 at', .int .i64 by'] w fun en w' => en = .returned (.bool true) ∧ Below w.heap.size w w' := by
  have HOF := Lib.hid (of_any l A n c kind w hn hN)
  have HBel := Lib.hid (fun n k W h1 h2 => below_any n k W h1 h2)
  have HAW := Lib.hid (fun W he => awake_any W he)
  have HE := Lib.hid he; clear he hN
  go_enter Tryd.func4, Tryd.ntmps4
  go_wp2_with fail
  refine HOF.out.mono ?_
  rintro en w1 ⟨x, v, rfl, hx, ho, hb1⟩
  obtain ⟨A1, c1, rfl⟩ := own_formN ho
  have P1 := Lib.hid (own_PrL ho)
  have HB1 := Lib.hid hb1
  have HX := Lib.hid hx
  clear ho hb1 HOF
  obtain ⟨hx80, hx16⟩ := Plain.zero_small hx
  have HL := Lib.hid (fun W he hN => line_any x A1 c1 W he hN (by omega) (by omega))
  have HC := Lib.hid (fun W hN => check_any x A1 c1 W hN (by omega) (by omega))
  have HS := Lib.hid (fun A2 c2 W h1 h2 => same_eq x A1 A2 c1 c2 W (by omega) h1 h2)
  have HP := Lib.hid (Plain.parse_line hx)
  rw [lineR_ok hx] at HL
  rw [hx] at HC
  have HW := Lib.hid (Plain.line_parts x)
  have HM := Lib.hid (Plain.line_mid x)
  have HCH := Lib.hid (fun s' k h1 h2 c d h3 h4 h5 => Plain.line_changed (x := x) hx (s' := s') k h1 h2 c d h3 h4 h5)
  have hz4 := Plain.body_four x
  have hz490 := Plain.body_len_le hx
  have hzs := Plain.line_size x
  have hHX := fun v => Plain.hexC_get v
  generalize Plain.bodyL x = bd at *
  generalize lineB x = s at *
  obtain ⟨m, hm⟩ : ∃ m, bd.length = m := ⟨_, rfl⟩
  have hzm : s.size = m + 4 := by omega
  have hm4 : 4 ≤ m ∧ m ≤ 490 := by omega
  have HMB := Lib.hid hm; clear hzs hz4 hz490 hm
  generalize hpl : x.prns.length = pn at *
  have HPN := Lib.hid hpl
  unfold snCells at *
  clear hx hx80 hx16 hpl
  go_wp2_with fail
  obtain ⟨w2, hw2⟩ : ∃ w2, w1.alloc (.cells #[.int .i64 x.kind, .int .i64 x.time, .bool x.ok, .int .i64 x.p0, .int .i64 x.p1, .int .i64 x.p2, .int .i64 x.l0, .int .i64 x.l1, .int .i64 x.l2, .slice A1 pn c1, .int .i64 x.prn, .int .i64 x.lag, .int .i64 x.power, .string x.text] 31) = w2 := ⟨_, rfl⟩
  rw [hw2]
  have hb12 : Below w1.heap.size w1 w2 := hw2 ▸ (Below.refl _ _).alloc (Nat.le_refl _) _
  have HX2 := Lib.hid (show Blk w2 w1.heap.size 31 _ from hw2 ▸ Blk.new_at rfl)
  have hsz2 : w2.heap.size = w1.heap.size + 1 := by rw [← hw2]; simp
  have P2 := Lib.hid (P1.out.below hb12 (Nat.le_refl _))
  have HB2 := Lib.hid (HB1.out.trans (hb12.mono HB1.out.size))
  clear hw2 hb12 P1
  obtain ⟨b, hb⟩ : ∃ b, w1.heap.size = b := ⟨_, rfl⟩
  rw [hb] at HX2 hsz2 ⊢
  clear hb
  refine (HL.out w2 (HE.out.below HB2.out HE.out.1) P2.out).mono ?_
  rintro en w3 ⟨rfl, hb3⟩
  have HX3 := Lib.hid (HX2.out.below hb3 (by omega))
  have P3 := Lib.hid (P2.out.below hb3 (Nat.le_refl _))
  have HB3 := Lib.hid (HB2.out.trans (hb3.mono HB2.out.size))
  have hsz3 := hb3.size
  clear hb3 HX2 P2 HB2 HL
  obtain ⟨x0, x1, x2, x3, x4, x5, x6, x7, x8, x9, x10, x11, x12, x13⟩ := Blk.cells14 HX3.out
  go_upto_region 3 with (fail)
  obtain ⟨-, g0, g1, g2, g3⟩ := HW.out m hzm
  have i0 : 0 < s.size := by omega
  have i1 : m + 1 < s.size := by omega
  have b0 : ((s[0]'i0).toNat : Int) = 36 := byte_at g0 i0 36 rfl
  have b1 : ((s[m + 1]'i1).toNat : Int) = 42 := byte_at g1 i1 42 rfl
  have h8 : (8 : Int) ≤ m + 4 := by omega
  have h0 : (0 : Int) < m + 4 := by omega
  have h3 : (3 : Int) ≤ m + 4 := by omega
  have h3' : (m : Int) + 4 - 3 < m + 4 := by omega
  have HG := Lib.hid (And.intro g2 g3); clear g0 g1 g2 g3
  go_wp2_with fail
  refine (HC.out w3 P3.out).mono ?_
  rintro en w4 ⟨rfl, hb4⟩
  have HX4 := Lib.hid (HX3.out.below hb4 (by omega))
  have P4 := Lib.hid (P3.out.below hb4 (Nat.le_refl _))
  have HB4 := Lib.hid (HB3.out.trans (hb4.mono HB3.out.size))
  have hsz4 := hb4.size
  clear hb4 HX3 P3 HB3 HC x0 x1 x2 x3 x4 x5 x6 x7 x8 x9 x10 x11 x12 x13
  go_upto_region 5 with (fail)
  clear b0 b1 h8 h0 h3 h3' i0 i1
  obtain ⟨te, pe, hV⟩ := (HE.out.below HB4.out HE.out.1).2.2
  have HP5 := parse_any s w4 (by omega) te pe hV (by have := HE.out.1; have := HB4.out.size; omega)
  rw [HP.out] at HP5
  clear hV
  go_wp2_with fail
  refine HP5.mono ?_
  rintro en w5 ⟨v5, rfl, ho5, hb5⟩
  clear HP5
  obtain ⟨A5, c5, rfl⟩ := own_formN ho5
  have P5 := Lib.hid (own_PrL ho5)
  have HX5 := Lib.hid (HX4.out.below hb5 (by omega))
  have P45 := Lib.hid (P4.out.below hb5 (Nat.le_refl _))
  have HB5 := Lib.hid (HB4.out.trans (hb5.mono HB4.out.size))
  have hsz5 := hb5.size
  clear ho5 hb5 HX4 P4 HB4
  unfold snCells
  rw [HPN.out]
  go_upto_region 6 with (fail)
  obtain ⟨w6, hw6⟩ : ∃ w6, (w5.alloc (.cells #[.int .i64 x.kind, .int .i64 x.time, .bool x.ok, .int .i64 x.p0, .int .i64 x.p1, .int .i64 x.p2, .int .i64 x.l0, .int .i64 x.l1, .int .i64 x.l2, .slice A5 pn c5, .int .i64 x.prn, .int .i64 x.lag, .int .i64 x.power, .string x.text] 31)).alloc (.cells #[.int .i64 0, .int .i64 0] 41) = w6 := ⟨_, rfl⟩
  have hsz6 : w6.heap.size = w5.heap.size + 2 := by rw [← hw6]; simp
  have hb56 : Below w5.heap.size w5 w6 := hw6 ▸ ((Below.refl _ _).alloc (Nat.le_refl _) _).alloc (by simp) _
  have HY6 := Lib.hid (show Blk w6 w5.heap.size 31 _ from hw6 ▸ (Blk.new_at rfl).alloc _)
  have HF6 := Lib.hid (show Blk w6 (w5.heap.size + 1) 41 #[.int .i64 0, .int .i64 0] from hw6 ▸ Blk.new_at (by simp))
  have HX6 := Lib.hid (HX5.out.below hb56 (by omega))
  have P6 := Lib.hid (P45.out.below hb56 (Nat.le_refl _))
  have Q6 := Lib.hid (P5.out.below hb56 (Nat.le_refl _))
  have HB6 := Lib.hid (HB5.out.trans (hb56.mono HB5.out.size))
  rw [hw6]
  clear hw6 hb56 HX5 P45 P5 HB5
  obtain ⟨g, hg⟩ : ∃ g, w5.heap.size = g := ⟨_, rfl⟩
  rw [hg] at HY6 HF6 hsz6 hsz5 ⊢
  clear hg
  obtain ⟨x0, x1, x2, x3, x4, x5, x6, x7, x8, x9, x10, x11, x12, x13⟩ := Blk.cells14 HX6.out
  obtain ⟨y0, y1, y2, y3, y4, y5, y6, y7, y8, y9, y10, y11, y12, y13⟩ := Blk.cells14 HY6.out
  have f0 := HF6.out.cell 0
  have f1 := HF6.out.cell 1
  have eF := eqFault0
  go_wp2_with fail
  refine (HS.out A5 c5 w6 P6.out Q6.out).mono ?_
  rintro en w7 ⟨rfl, hb7⟩
  have HB7 := Lib.hid (HB6.out.trans (hb7.mono HB6.out.size))
  clear hb7 HX6 HY6 HF6 P6 Q6 HB6 HS x0 x1 x2 x3 x4 x5 x6 x7 x8 x9 x10 x11 x12 x13 y0 y1 y2 y3 y4 y5 y6 y7 y8 y9 y10 y11 y12 y13 f0 f1 eF
  go_upto_region 8 with (fail)
  have h8 : (8 : Int) ≤ m + 4 := by omega
  have h1 : (1 : Int) ≤ m + 4 - 3 := by omega
  have h2 : (m : Int) + 4 - 3 ≤ m + 4 := by omega
  go_wp2_with fail
  have hsum : Plain.sumN (s.extract 1 (m + 1)).data.toList = Plain.sumN bd := by
    have := HM.out
    rw [HMB.out, Nat.add_comm 1 m] at this
    rw [this]
  have hsm := Plain.sumN_lt bd
  have HSU := sum_any (s.extract 1 (m + 1)) w7 (by rw [ByteArray.size_extract]; omega)
  rw [hsum] at HSU
  refine HSU.mono ?_
  rintro en wz ⟨rfl, rfl⟩
  clear HSU hsum
  obtain ⟨g2, g3⟩ := HG.out
  generalize Plain.sumN bd = sm at *
  go_upto_region 9 with (fail)
  have i2 : m + 2 < s.size := by omega
  have i3 : m + 3 < s.size := by omega
  have j2 : sm / 16 < hexB.size := by show _ < 16; omega
  have j3 : sm % 16 < hexB.size := by show _ < 16; omega
  have b2 : ((s[m + 2]'i2).toNat : Int) = ((hexB[sm / 16]'j2).toNat : Int) := byte_at g2 i2 _ (hexC_hexB (by omega) j2)
  have b3 : ((s[m + 3]'i3).toNat : Int) = ((hexB[sm % 16]'j3).toNat : Int) := byte_at g3 i3 _ (hexC_hexB (by omega) j3)
  have u2 : IntKind.i64.wrap ((m : Int) + 4 - 2) = ((m + 2 : Nat) : Int) := by rw [IntWalk.i64_in _ (by omega)]; omega
  have u3 : IntKind.i64.wrap ((m : Int) + 4 - 1) = ((m + 3 : Nat) : Int) := by rw [IntWalk.i64_in _ (by omega)]; omega
  have u4 : (sm : Int).tdiv 16 = ((sm / 16 : Nat) : Int) := by rw [Int.tdiv_eq_ediv_of_nonneg (by omega)]; omega
  have u5 : (sm : Int).tmod 16 = ((sm % 16 : Nat) : Int) := by rw [Int.tmod_eq_emod_of_nonneg (by omega)]; omega
  have q1 : ¬ (sm : Int) < 0 := by omega
  have q2 : ¬ 255 < (sm : Int) := by omega
  have u6 : IntKind.i64.wrap ((sm : Int) / 16) = (sm : Int) / 16 := IntWalk.i64_in _ (by omega)
  have u7 : IntKind.i64.wrap ((sm : Int) % 16) = (sm : Int) % 16 := IntWalk.i64_in _ (by omega)
  have k2 : (0 : Int) ≤ (m : Int) + 2 := by omega
  have t2 : ((m : Int) + 2).toNat = m + 2 := by omega
  have k3 : (0 : Int) ≤ (m : Int) + 3 := by omega
  have t3 : ((m : Int) + 3).toNat = m + 3 := by omega
  have k4 : (0 : Int) ≤ (sm : Int) / 16 := by omega
  have k5 : (sm : Int) / 16 < 16 := by omega
  have t4 : ((sm : Int) / 16).toNat = sm / 16 := by omega
  have k6 : (0 : Int) ≤ (sm : Int) % 16 := by omega
  have k7 : (sm : Int) % 16 < 16 := by omega
  have t6 : ((sm : Int) % 16).toNat = sm % 16 := by omega
  unfold hexB at b2 b3 j2 j3
  refine wp_region_still_lit (by kernel_rfl) (by kernel_rfl) ?_
  repeat still_step
  refine wpStill_nil ?_
  have cB := fun W => run_bytes_of_string (P := Tryd.prog) W 9 45 5 s Tryd.underlying9 Tryd.underlying45 Tryd.underlying5
  obtain ⟨w8, hw8⟩ : ∃ w8, w7.drew = w8 := ⟨_, rfl⟩
  have HB8 := Lib.hid (show Below w.heap.size w w8 from hw8 ▸ Below.drew HB7.out)
  change Exit.then _ _ _ _ w7.drew
  rw [hw8]
  clear hw8 HB7
  go_upto_region 11 with (fail)
  clear u2 u3 u4 u5 u6 u7 q1 q2 b2 b3
  go_upto_region 12 with (fail)
  obtain ⟨w9, hw9⟩ : ∃ w9, (w8.alloc (.cells (bytesRow s (grownCap w8 (m + 4) 0 5)) 5 ((bytesRow s (grownCap w8 (m + 4) 0 5)).size, (bytesRow s (grownCap w8 (m + 4) 0 5)).size + 1))).drew = w9 := ⟨_, rfl⟩
  have hsz9 : w8.heap.size < w9.heap.size := by rw [← hw9]; show _ < (w8.alloc _).heap.size; simp
  have HB9 := Lib.hid (show Below w.heap.size w w9 from hw9 ▸ Below.drew (HB8.out.alloc HB8.out.size _))
  have HBB := Lib.hid (show BB w9 w8.heap.size s.data.toList from hw9 ▸ bytes_block w8 s _ _)
  rw [hw9]
  clear hw9 cB
  have hg9 := HB8.out.size
  obtain ⟨g9, hgg⟩ : ∃ g9, w8.heap.size = g9 := ⟨_, rfl⟩
  obtain ⟨cp, hcp⟩ : ∃ cp, grownCap w8 (m + 4) 0 5 = cp := ⟨_, rfl⟩
  rw [hgg] at HBB hsz9 hg9 ⊢
  rw [hcp]
  clear hgg hcp HB8
  have m1 : (1 : Int) ≤ m := by omega
  have m2 : (m : Int) ≤ 9223372036854775807 := by omega
  go_wp2_with fail
  refine (HBel.out _ _ _ (by omega) (by omega)).mono ?_
  rintro en wz ⟨rfl, rfl⟩
  obtain ⟨kN, hkN⟩ : ∃ kN : Nat, at' % (m : Int) = kN := ⟨(at' % (m : Int)).toNat, by have := Int.emod_nonneg at' (show (m : Int) ≠ 0 by omega); omega⟩
  have hkm : kN < m := by have := Int.emod_lt_of_pos at' (show (0 : Int) < m by omega); omega
  rw [hkN]
  clear hkN
  go_upto_region 13 with (fail)
  have hkl : kN + 1 < s.data.toList.length := by rw [Plain.len_size]; omega
  obtain ⟨cc, hcc⟩ : ∃ cc, s.data.toList[kN + 1] = cc := ⟨_, rfl⟩
  have c1 : w9.cell? ⟨g9, kN + 1, none⟩ = some (.int .u8 (cc.toNat : Int)) := by rw [← hcc]; exact HBB.out.1 _ hkl
  have f1 := HBB.out.2 _ hkl
  have r1 : (1 : Int) + kN < m + 4 := by omega
  have r0 : (0 : Int) ≤ 1 + (kN : Int) := by omega
  have r2 : ((1 : Int) + (kN : Int)).toNat = kN + 1 := by omega
  have wz1 : IntKind.i64.wrap (1 + by' % 255) = 1 + by' % 255 := IntWalk.i64_in _ (by omega)
  have wz2 : IntKind.u8.wrap (1 + by' % 255) = 1 + by' % 255 := u8_in _ (by omega) (by omega)
  go_region_with (go_at_call 17; refine (HBel.out _ _ _ ?h1 ?h2).mono ?_; (case h1 => omega); (case h2 => omega); rintro en wz ⟨rfl, rfl⟩)
  all_goals
    rw [xor_u8 cc (1 + by' % 255) (by omega) (by omega)]
    obtain ⟨dd, hdd⟩ : ∃ dd, UInt8.ofNat (1 + by' % 255).toNat = dd := ⟨_, rfl⟩
    have hd0 : dd ≠ 0 := by
      rw [← hdd]
      intro e
      have e2 := congrArg UInt8.toNat e
      rw [UInt8.toNat_ofNat'] at e2
      have e3 : (0 : UInt8).toNat = 0 := rfl
      omega
    rw [hdd]
    have HBS := Lib.hid (HBB.out.set (kN + 1) hkl (cc ^^^ dd))
    have HB10 := Lib.hid (Below.drew (HB9.out.setCell (p := ⟨g9, kN + 1, none⟩) hg9 (.int .u8 ((cc ^^^ dd).toNat : Int))))
    have hll : (s.data.toList.set (kN + 1) (cc ^^^ dd)).length = m + 4 := by rw [List.length_set, Plain.len_size]; omega
    obtain ⟨w10, hw10⟩ : ∃ w10, (w9.setCell ⟨g9, kN + 1, none⟩ (.int .u8 ((cc ^^^ dd).toNat : Int))).drew = w10 := ⟨_, rfl⟩
    have HBW := Lib.hid (show Below w.heap.size w w10 from hw10 ▸ HB10.out)
    have hBT : BB w10 g9 (s.data.toList.set (kN + 1) (cc ^^^ dd)) := hw10 ▸ HBS.out
    have cv := back_bytes w10 g9 cp (m + 4) _ hll hBT
    have HCG := Lib.hid (HCH.out ⟨(s.data.toList.set (kN + 1) (cc ^^^ dd)).toArray⟩ (kN + 1) (by omega) (by have := HMB.out; omega) cc dd hd0 (by rw [List.getElem?_eq_getElem hkl, hcc]) rfl)
    have hsz' : (⟨(s.data.toList.set (kN + 1) (cc ^^^ dd)).toArray⟩ : ByteArray).size ≤ 1000000 := by
      show (s.data.toList.set (kN + 1) (cc ^^^ dd)).toArray.size ≤ 1000000
      rw [List.size_toArray, hll]
      omega
    rw [hw10]
    clear hw10 HBS HB10 hBT c1 f1 hll HBB HB9 r0 r1 r2 wz1 wz2
    generalize (⟨(s.data.toList.set (kN + 1) (cc ^^^ dd)).toArray⟩ : ByteArray) = s' at *
    obtain ⟨te, pe, hV⟩ := (HE.out.below HBW.out HE.out.1).2.2
    have HPC := Lib.hid (parse_any s' w10 hsz' te pe hV (by have := HE.out.1; have := HBW.out.size; omega))
    generalize Plain.parse s' = r at *
    obtain ⟨sn, er, ea⟩ := r
    have hq : (er != 0) = true := by
      have := HCG.out
      simpa using this
    clear hV hsz' HCG
    go_wp2_with fail
    refine HPC.out.mono ?_
    rintro en w11 ⟨v11, rfl, ho11, hb11⟩
    obtain ⟨A11, c11, rfl⟩ := own_formN ho11
    have HB11 := Lib.hid (HBW.out.trans (hb11.mono HBW.out.size))
    clear ho11 hb11 HPC HBW
    unfold snCells
    go_upto_region 15 with (fail)
    obtain ⟨w12, hw12⟩ : ∃ w12, (w11.alloc (.cells #[.int .i64 sn.kind, .int .i64 sn.time, .bool sn.ok, .int .i64 sn.p0, .int .i64 sn.p1, .int .i64 sn.p2, .int .i64 sn.l0, .int .i64 sn.l1, .int .i64 sn.l2, .slice A11 sn.prns.length c11, .int .i64 sn.prn, .int .i64 sn.lag, .int .i64 sn.power, .string sn.text] 31)).alloc (.cells #[.int .i64 er, .int .i64 ea] 41) = w12 := ⟨_, rfl⟩
    have HB12 := Lib.hid (show Below w.heap.size w w12 from hw12 ▸ ((HB11.out.alloc HB11.out.size _).alloc (by have := HB11.out.size; simp; omega) _))
    have f12 : w12.cell? ⟨w11.heap.size + 1, 0, none⟩ = some (.int .i64 er) := (show Blk w12 (w11.heap.size + 1) 41 #[.int .i64 er, .int .i64 ea] from hw12 ▸ Blk.new_at (by simp)).cell 0
    rw [hw12]
    clear hw12 HB11
    go_wp2_with fail
    refine (HAW.out w12 (HE.out.below HB12.out HE.out.1)).mono ?_
    rintro en w13 ⟨rfl, hb13⟩
    have HB13 := Lib.hid (HB12.out.trans (hb13.mono HB12.out.size))
    go_wp2_with fail
    go_ret
    exact ⟨rfl, HB13.out⟩
end Go.Proofs.YteeekdffbcbamaaDoor
