/-
  WALKS: two sentences that are equal (same, Alike), and the chapter's example.
-/
import Derived.Test.YteeekdffbcbamaaGreatDoorLineZ
import Derived.Test.YteeekdffbcbamaaGreatDoorParseZ
namespace Go.Proofs.YteeekdffbcbamaaGreatDoor
open Go.RowKit

set_option maxHeartbeats 1000000 in
theorem alike_eq (xs : List Int) (A1 A2 : Option Addr) (n c1 c2 : Nat) (w : World) (hn : xs.length = n) (hm : n ≤ 9223372036854775807) (h1 : PrL w A1 xs) (h2 : PrL w A2 xs) :
    Calls Tryz.prog 12 #[.slice A1 n c1, .slice A2 n c2] w fun en w' => en = .returned (.bool true) ∧ ∃ k, w' = w.drewN k := by
  have HN := Lib.hid hn; clear hn
  have H1 := Lib.hid h1; clear h1
  have H2 := Lib.hid h2; clear h2
  go_enter Tryz.func12, Tryz.ntmps12
  go_wp2_with fail
  go_loopw [5] (fun i wr => ∃ k m : Nat, k ≤ n ∧ i = .int .i64 k ∧ wr = w.drewN m) (fun i _ => n - (intOf i).toNat)
  case atStart => exact ⟨0, 0, Nat.zero_le _, rfl, rfl⟩
  case round =>
    obtain ⟨k, m, hk, rfl, hw⟩ := hrel
    subst hw
    by_cases hlt : k < n
    · have hkl : k < xs.length := by rw [HN.out]; exact hlt
      obtain ⟨a1, e1, g1⟩ := H1.out k hkl
      obtain ⟨a2, e2, g2⟩ := H2.out k hkl
      subst e1 e2
      generalize xs[k] = z at *
      have hlt' : (k : Int) < n := by omega
      have g1' : (w.drewN m).cell? (a1.add k) = some (.int .i64 z) := g1
      have g2' : (w.drewN m).cell? (a2.add k) = some (.int .i64 z) := g2
      go_wp2_with fail
      go_quiet (fail)
      go_wp2_with fail
      go_roundw
      case rel => exact ⟨k + 1, _, by omega, by go_num, rfl⟩
      case measure => simp [intOf]; omega
    · obtain rfl : k = n := by omega
      go_wp2_with fail
      go_ret
      exact ⟨rfl, m, rfl⟩
def hiSn : Plain.Sn := ⟨3, 5, false, 0, 0, 0, 0, 0, 0, [], 0, 0, 0, ⟨#[104, 105]⟩⟩
theorem hi_any (w : World) : Calls Tryz.prog 29 #[] w fun en w' => en = .returned (.agg (snCells hiSn (.slice none 0 0))) ∧ Below w.heap.size w w' := by
  go_enter Tryz.func29, Tryz.ntmps29
  go_wp2_with fail
  exact bodyPost_ret (v := .agg (snCells hiSn (.slice none 0 0))) (by simp [results, Tryz.results29, go_sem, snCells, hiSn]) rfl ⟨rfl, (Below.refl _ _).alloc (Nat.le_refl _) _⟩
set_option maxRecDepth 100000 in
set_option maxHeartbeats 4000000 in
theorem same_eq (x : Plain.Sn) (A1 A2 : Option Addr) (c1 c2 : Nat) (w : World) (hm : x.prns.length ≤ 9223372036854775807) (h1 : PrL w A1 x.prns) (h2 : PrL w A2 x.prns) :
    Calls Tryz.prog 16 #[.agg (snCells x (.slice A1 x.prns.length c1)), .agg (snCells x (.slice A2 x.prns.length c2))] w fun en w' => en = .returned (.bool true) ∧ Below w.heap.size w w' := by
  have HA := Lib.hid (fun W h1 h2 => alike_eq x.prns A1 A2 _ c1 c2 W rfl hm h1 h2)
  have hb2 : Below w.heap.size w ((w.alloc (.cells (snCells x (.slice A1 x.prns.length c1)) 28)).alloc (.cells (snCells x (.slice A2 x.prns.length c2)) 28)) := ((Below.refl _ _).alloc (Nat.le_refl _) _).alloc (by simp) _
  have H1 := Lib.hid (h1.below hb2 (Nat.le_refl _))
  have H2 := Lib.hid (h2.below hb2 (Nat.le_refl _))
  have HB := Lib.hid hb2; clear hb2
  have eP := fun W => eq3_is (same3_refl x.p0 x.p1 x.p2) W
  have eL := fun W => eq3_is (same3_refl x.l0 x.l1 x.l2) W
  unfold snCells at *
  generalize x.prns.length = n at *
  clear h1 h2
  go_enter Tryz.func16, Tryz.ntmps16
  go_wp2_with fail
  refine (HA.out _ H1.out H2.out).mono ?_
  rintro en w1 ⟨rfl, k, rfl⟩
  go_wp2_with fail
  go_ret
  exact ⟨rfl, below_drewN HB.out _⟩
end Go.Proofs.YteeekdffbcbamaaGreatDoor
/-
  PLAIN: the chapter's examples.
-/
namespace Go.Proofs.YteeekdffbcbamaaGreatDoor
open Go.RowKit

theorem itoa_one (i : Nat) (h : i < 10) : itoaB (i : Int) = ⟨#[UInt8.ofNat (48 + i)]⟩ := by
  unfold itoaB
  rw [Lib.itoa_nonneg, Lib.decDigits_one h]
theorem itoa_two (i : Nat) (h1 : ¬ i < 10) (h2 : i < 100) : itoaB (i : Int) = ⟨#[UInt8.ofNat (48 + i / 10), UInt8.ofNat (48 + i % 10)]⟩ := by
  unfold itoaB
  rw [Lib.itoa_nonneg, Lib.decDigits_two h1 h2]
theorem hi_wrap : wrapB (joinB [⟨#[84, 88, 84]⟩, ⟨#[53]⟩, ⟨#[104, 105]⟩]) = ⟨#[36, 84, 88, 84, 44, 53, 44, 104, 105, 42, 54, 67]⟩ := by kernel_rfl
theorem ch_wrap : wrapB (joinB [⟨#[83, 65, 84]⟩, ⟨#[48]⟩, ⟨#[49]⟩, ⟨#[51]⟩, ⟨#[55]⟩, ⟨#[49, 48]⟩]) = ⟨#[36, 83, 65, 84, 44, 48, 44, 49, 44, 51, 44, 55, 44, 49, 48, 42, 54, 69]⟩ := by kernel_rfl
theorem hi_check : Plain.checkE hiSn = 0 := by
  rw [(Plain.checkE_3 (x := hiSn) rfl (by rfl)).1 ⟨rfl, rfl, rfl, rfl, rfl, rfl, rfl, rfl, rfl, rfl, rfl⟩]
  rfl
theorem hi_line : lineR hiSn = (⟨#[36, 84, 88, 84, 44, 53, 44, 104, 105, 42, 54, 67]⟩, 0) := by
  unfold lineR
  rw [if_pos hi_check]
  have h : fieldsT hiSn = [⟨#[84, 88, 84]⟩, ⟨#[53]⟩, ⟨#[104, 105]⟩] := by
    show [(⟨#[84, 88, 84]⟩ : ByteArray)] ++ [itoaB ((5 : Nat) : Int)] ++ [⟨#[104, 105]⟩] = _
    rw [itoa_one 5 (by omega)]
    rfl
  unfold lineB bodyT
  rw [h, hi_wrap]
def chSn : Plain.Sn := ⟨2, 0, true, 0, 0, 0, 0, 0, 0, [], 3, 7, 10, ⟨#[]⟩⟩
theorem ch_check : Plain.checkE chSn = 0 := by
  rw [(Plain.checkE_2 (x := chSn) rfl (by rfl)).1 ⟨rfl, rfl, rfl, rfl, rfl, rfl, rfl, rfl⟩]
  rfl
theorem ch_line : lineR chSn = (⟨#[36, 83, 65, 84, 44, 48, 44, 49, 44, 51, 44, 55, 44, 49, 48, 42, 54, 69]⟩, 0) := by
  unfold lineR
  rw [if_pos ch_check]
  have h : fieldsT chSn = [⟨#[83, 65, 84]⟩, ⟨#[48]⟩, ⟨#[49]⟩, ⟨#[51]⟩, ⟨#[55]⟩, ⟨#[49, 48]⟩] := by
    show [(⟨#[83, 65, 84]⟩ : ByteArray)] ++ [itoaB ((0 : Nat) : Int), itoaB ((1 : Nat) : Int), itoaB ((3 : Nat) : Int), itoaB ((7 : Nat) : Int), itoaB ((10 : Nat) : Int)] = _
    rw [itoa_one 0 (by omega), itoa_one 1 (by omega), itoa_one 3 (by omega), itoa_one 7 (by omega), itoa_two 10 (by omega) (by omega)]
    rfl
  unfold lineB bodyT
  rw [h, ch_wrap]
theorem hi_parse : Plain.parse ⟨#[36, 84, 88, 84, 44, 53, 44, 104, 105, 42, 54, 67]⟩ = (hiSn, 0, 0) := by kernel_rfl
end Go.Proofs.YteeekdffbcbamaaGreatDoor
/-
  WALKS: the chapter's examples that every statement asks (awake).
-/
namespace Go.Proofs.YteeekdffbcbamaaGreatDoor
open Go.RowKit

theorem own_formN {w : World} {base : Nat} {e : TypeId} {size n : Nat} {v : Value} {xs : List Value} (h : w.ownsRow base e size v n xs) : ∃ A c, v = .slice A n c := by
  rcases h.2 with ⟨rfl, rfl⟩ | ⟨g', cap, cur, rfl, _⟩
  · exact ⟨_, _, rfl⟩
  · exact ⟨_, _, rfl⟩
theorem own_PrL {w : World} {base : Nat} {A : Option Addr} {c : Nat} {l : List Int} (h : w.ownsRow base 3 1 (.slice A l.length c) l.length (l.map (Value.int .i64))) : PrL w A l := by
  intro j hj
  rcases h.2 with ⟨_, h0⟩ | ⟨g', cap, cur, hv, _⟩
  · omega
  · have hA : A = some ⟨g', 0, none⟩ := by injection hv
    subst hA
    exact ⟨_, rfl, h.cells (g := g') rfl j _ (by rw [List.getElem?_map, List.getElem?_eq_getElem hj]; rfl)⟩
theorem PrL.nil (w : World) (A : Option Addr) : PrL w A [] := fun j hj => absurd hj (by simp)
abbrev hiS : Value := .string ⟨#[36, 84, 88, 84, 44, 53, 44, 104, 105, 42, 54, 67]⟩
abbrev chS : Value := .string ⟨#[36, 83, 65, 84, 44, 48, 44, 49, 44, 51, 44, 55, 44, 49, 48, 42, 54, 69]⟩
theorem hi_lit (w : World) : Calls Tryz.prog 29 #[] w fun en w' => en = .returned (.agg #[.int .i64 3, .int .i64 5, .bool false, .int .i64 0, .int .i64 0, .int .i64 0, .int .i64 0, .int .i64 0, .int .i64 0, .slice none 0 0, .int .i64 0, .int .i64 0, .int .i64 0, .string ⟨#[104, 105]⟩]) ∧ Below w.heap.size w w' := hi_any w
theorem line_hi (W : World) (he : Env W) : Calls Tryz.prog 19 #[.agg #[.int .i64 3, .int .i64 5, .bool false, .int .i64 0, .int .i64 0, .int .i64 0, .int .i64 0, .int .i64 0, .int .i64 0, .slice none 0 0, .int .i64 0, .int .i64 0, .int .i64 0, .string ⟨#[104, 105]⟩]] W fun en w' => en = .returned (.tuple #[hiS, .int .i64 0]) ∧ Below W.heap.size W w' := by
  have h := line_any hiSn none 0 W he (PrL.nil _ _) (by decide) (by decide)
  rw [hi_line] at h
  exact h
theorem line_ch (W : World) (he : Env W) : Calls Tryz.prog 19 #[.agg #[.int .i64 2, .int .i64 0, .bool true, .int .i64 0, .int .i64 0, .int .i64 0, .int .i64 0, .int .i64 0, .int .i64 0, .slice none 0 0, .int .i64 3, .int .i64 7, .int .i64 10, .string ⟨#[]⟩]] W fun en w' => en = .returned (.tuple #[chS, .int .i64 0]) ∧ Below W.heap.size W w' := by
  have h := line_any chSn none 0 W he (PrL.nil _ _) (by decide) (by decide)
  rw [ch_line] at h
  exact h
theorem parse_hi (W : World) (he : Env W) : Calls Tryz.prog 14 #[hiS] W fun en w' => ∃ A c, en = .returned (.tuple #[.agg #[.int .i64 3, .int .i64 5, .bool false, .int .i64 0, .int .i64 0, .int .i64 0, .int .i64 0, .int .i64 0, .int .i64 0, .slice A 0 c, .int .i64 0, .int .i64 0, .int .i64 0, .string ⟨#[104, 105]⟩], .agg #[.int .i64 0, .int .i64 0]]) ∧ Below W.heap.size W w' := by
  obtain ⟨h8, _, te, pe, hV⟩ := he
  have h := parse_any ⟨#[36, 84, 88, 84, 44, 53, 44, 104, 105, 42, 54, 67]⟩ W (by decide) te pe hV (by omega)
  rw [hi_parse] at h
  refine h.mono ?_
  rintro en w' ⟨v, rfl, ho, hb⟩
  obtain ⟨A, c, rfl⟩ := own_formN ho
  exact ⟨A, c, rfl, hb⟩
theorem same_hi (A : Option Addr) (c : Nat) (W : World) : Calls Tryz.prog 16 #[.agg #[.int .i64 3, .int .i64 5, .bool false, .int .i64 0, .int .i64 0, .int .i64 0, .int .i64 0, .int .i64 0, .int .i64 0, .slice A 0 c, .int .i64 0, .int .i64 0, .int .i64 0, .string ⟨#[104, 105]⟩], .agg #[.int .i64 3, .int .i64 5, .bool false, .int .i64 0, .int .i64 0, .int .i64 0, .int .i64 0, .int .i64 0, .int .i64 0, .slice none 0 0, .int .i64 0, .int .i64 0, .int .i64 0, .string ⟨#[104, 105]⟩]] W fun en w' => en = .returned (.bool true) ∧ Below W.heap.size W w' :=
  same_eq hiSn A none c 0 W (by decide) (PrL.nil _ _) (PrL.nil _ _)
theorem eqFault0 (W : World) : (Op.equalIn 10000 39 (.agg #[.int .i64 0, .int .i64 0]) (.agg #[.int .i64 0, .int .i64 0])).run Tryz.prog W = .ok true W := by kernel_rfl
set_option maxRecDepth 100000 in
set_option maxHeartbeats 4000000 in
theorem awake_any (w : World) (he : Env w) : Calls Tryz.prog 13 #[] w fun en w' => en = .returned (.bool true) ∧ Below w.heap.size w w' := by
  have HE := Lib.hid he; clear he
  have HH := Lib.hid hi_lit
  have HL1 := Lib.hid line_hi
  have HL2 := Lib.hid line_ch
  have HP := Lib.hid parse_hi
  have HS := Lib.hid same_hi
  go_enter Tryz.func13, Tryz.ntmps13
  go_wp2_with fail
  refine (HH.out _).mono ?_
  rintro en w1 ⟨rfl, hb1⟩
  have HB1 := Lib.hid hb1; clear hb1
  go_wp2_with fail
  refine (HL1.out _ (HE.out.below HB1.out HE.out.1)).mono ?_
  rintro en w2 ⟨rfl, hb2⟩
  have HB2 := Lib.hid (HB1.out.trans (hb2.mono HB1.out.size)); clear hb2 HB1
  go_wp2_with fail
  refine (HL2.out _ (HE.out.below HB2.out HE.out.1)).mono ?_
  rintro en w3 ⟨rfl, hb3⟩
  have HB3 := Lib.hid (HB2.out.trans (hb3.mono HB2.out.size)); clear hb3 HB2
  go_wp2_with fail
  refine (HP.out _ (HE.out.below HB3.out HE.out.1)).mono ?_
  rintro en w4 ⟨A, c, rfl, hb4⟩
  have HB4 := Lib.hid (HB3.out.trans (hb4.mono HB3.out.size)); clear hb4 HB3
  go_wp2_with fail
  obtain ⟨w5, hw5⟩ : ∃ w5, (w4.alloc (.cells #[.int .i64 3, .int .i64 5, .bool false, .int .i64 0, .int .i64 0, .int .i64 0, .int .i64 0, .int .i64 0, .int .i64 0, .slice A 0 c, .int .i64 0, .int .i64 0, .int .i64 0, .string ⟨#[104, 105]⟩] 28)).alloc (.cells #[.int .i64 0, .int .i64 0] 39) = w5 := ⟨_, rfl⟩
  have hX5 : Blk w5.drew w4.heap.size 28 #[.int .i64 3, .int .i64 5, .bool false, .int .i64 0, .int .i64 0, .int .i64 0, .int .i64 0, .int .i64 0, .int .i64 0, .slice A 0 c, .int .i64 0, .int .i64 0, .int .i64 0, .string ⟨#[104, 105]⟩] := Blk.drew (hw5 ▸ (Blk.new_at rfl).alloc _)
  have hF5 : Blk w5.drew (w4.heap.size + 1) 39 #[.int .i64 0, .int .i64 0] := Blk.drew (hw5 ▸ Blk.new_at (by simp))
  have hB5 : Below w.heap.size w w5.drew := Below.drew (hw5 ▸ (HB4.out.alloc HB4.out.size _).alloc (Nat.le_trans HB4.out.size (by simp)) _)
  have hsz5 : w5.heap.size = w4.heap.size + 2 := by rw [← hw5]; simp
  rw [hw5]
  clear hw5
  have HX5 := Lib.hid hX5
  have HF5 := Lib.hid hF5
  have HB5 := Lib.hid hB5; clear hB5
  have hlA : w4.heap.size < w5.drew.heap.size := by show _ < w5.heap.size; omega
  have hlB : w4.heap.size + 1 < w5.drew.heap.size := by show _ < w5.heap.size; omega
  obtain ⟨x0, x1, x2, x3, x4, x5, x6, x7, x8, x9, x10, x11, x12, x13⟩ := Blk.cells14 hX5
  have y0 := hF5.cell 0
  have y1 := hF5.cell 1
  clear hX5 hF5
  have eF := eqFault0
  go_region_held3 (fun w' => w'.cell? ⟨w4.heap.size, 0, none⟩ = some (.int .i64 3) ∧ w'.cell? ⟨w4.heap.size, 1, none⟩ = some (.int .i64 5) ∧ w'.cell? ⟨w4.heap.size, 2, none⟩ = some (.bool false) ∧ w'.cell? ⟨w4.heap.size, 3, none⟩ = some (.int .i64 0) ∧ w'.cell? ⟨w4.heap.size, 4, none⟩ = some (.int .i64 0) ∧ w'.cell? ⟨w4.heap.size, 5, none⟩ = some (.int .i64 0) ∧ w'.cell? ⟨w4.heap.size, 6, none⟩ = some (.int .i64 0) ∧ w'.cell? ⟨w4.heap.size, 7, none⟩ = some (.int .i64 0) ∧ w'.cell? ⟨w4.heap.size, 8, none⟩ = some (.int .i64 0) ∧ w'.cell? ⟨w4.heap.size, 9, none⟩ = some (.slice A 0 c) ∧ w'.cell? ⟨w4.heap.size, 10, none⟩ = some (.int .i64 0) ∧ w'.cell? ⟨w4.heap.size, 11, none⟩ = some (.int .i64 0) ∧ w'.cell? ⟨w4.heap.size, 12, none⟩ = some (.int .i64 0) ∧ w'.cell? ⟨w4.heap.size, 13, none⟩ = some (.string ⟨#[104, 105]⟩) ∧ w'.cell? ⟨w4.heap.size + 1, 0, none⟩ = some (.int .i64 0) ∧ w'.cell? ⟨w4.heap.size + 1, 1, none⟩ = some (.int .i64 0)) (first | go_keep | exact ⟨a0, a1, a2, a3, a4, a5, a6, a7, a8, a9, a10, a11, a12, a13, d0, d1⟩ | exact ⟨b0, b1, b2, b3, b4, b5, b6, b7, b8, b9, b10, b11, b12, b13, f0, f1⟩)
    (first
      | (go_at_call 29; refine (HH.out w5.drew).mono ?_; rintro en wa ⟨rfl, hba⟩; have hXa := HX5.out.below hba hlA; have hFa := HF5.out.below hba hlB; obtain ⟨a0, a1, a2, a3, a4, a5, a6, a7, a8, a9, a10, a11, a12, a13⟩ := Blk.cells14 hXa; have d0 := hFa.cell 0; have d1 := hFa.cell 1; have HXa := Lib.hid hXa; have HFa := Lib.hid hFa; clear hXa hFa; have hlC : w4.heap.size + 1 < wa.heap.size := Nat.lt_of_lt_of_le hlB hba.size; have HBa := Lib.hid (HB5.out.trans (hba.mono HB5.out.size)); clear hba)
      | (go_at_call 16; refine (HS.out _ _ wa).mono ?_; rintro en wb ⟨rfl, hbb⟩; have hXb := HXa.out.below hbb (by omega); have hFb := HFa.out.below hbb hlC; obtain ⟨b0, b1, b2, b3, b4, b5, b6, b7, b8, b9, b10, b11, b12, b13⟩ := Blk.cells14 hXb; have f0 := hFb.cell 0; have f1 := hFb.cell 1; clear hXb hFb; have HBb := Lib.hid (HBa.out.trans (hbb.mono HBa.out.size)); clear hbb))
  all_goals
    go_wp2_with fail
    go_ret
    exact ⟨rfl, HBb.out⟩
end Go.Proofs.YteeekdffbcbamaaGreatDoor
