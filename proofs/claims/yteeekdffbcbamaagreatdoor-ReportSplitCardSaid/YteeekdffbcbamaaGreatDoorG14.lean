/-
  WALKS: a valid sentence that numbers select (skyfixlaw41.of): a text.
-/
import Derived.Test.YteeekdffbcbamaaGreatDoorG11
import Derived.Laws.IdiomStrings
namespace Go.Proofs.YteeekdffbcbamaaGreatDoor
open Go.RowKit

/-- A text that is being made. -/
def TxR (w wr : World) (z0 : Int) (T : ByteArray) : Prop :=
  Blk wr (w.heap.size + 1) 28 #[.int .i64 3, .int .i64 z0, .bool false, .int .i64 0, .int .i64 0, .int .i64 0, .int .i64 0, .int .i64 0, .int .i64 0, .slice none 0 0, .int .i64 0, .int .i64 0, .int .i64 0, .string T] ∧
    Blk wr w.heap.size 28 zeroX ∧ Below w.heap.size w wr ∧ T.data.toList.all Plain.fitB = true
theorem TxR.step {w wr : World} {z0 : Int} {T : ByteArray} {c : UInt8} {o : Obj} (hX : Blk wr (w.heap.size + 1) 28 #[.int .i64 3, .int .i64 z0, .bool false, .int .i64 0, .int .i64 0, .int .i64 0, .int .i64 0, .int .i64 0, .int .i64 0, .slice none 0 0, .int .i64 0, .int .i64 0, .int .i64 0, .string T])
    (hR : Blk wr w.heap.size 28 zeroX) (hB : Below w.heap.size w wr) (hT : T.data.toList.all Plain.fitB = true) (hc : Plain.fitB c = true) :
    TxR w ((wr.setCell ⟨w.heap.size + 1, 13, none⟩ (.string (T ++ ⟨#[c]⟩))).alloc o) z0 (T ++ ⟨#[c]⟩) := by
  refine ⟨(hX.putAt 13 _ rfl).alloc o, (hR.far (by simp) _).alloc o, (hB.setCell (by simp) _).alloc ?_ o, ?_⟩
  · have := hB.size
    simpa [World.setCell] using this
  · rw [ByteArray.data_append, Array.toList_append, List.all_append, hT]
    simpa using hc
theorem size_snoc (T : ByteArray) (c : UInt8) : (T ++ ⟨#[c]⟩ : ByteArray).size = T.size + 1 := by rw [ByteArray.size_append]; rfl
theorem fit_of {u : Int} (h : 32 ≤ u ∧ u ≤ 126) (q1 : (u == 44) = false) (q2 : (u == 42) = false) (q3 : (u == 36) = false) : Plain.fitB (UInt8.ofNat u.toNat) = true := by
  have e : (UInt8.ofNat u.toNat).toNat = u.toNat := by rw [UInt8.toNat_ofNat']; omega
  unfold Plain.fitB
  rw [e]
  simp at q1 q2 q3 ⊢
  omega
theorem txt_ok {z0 : Int} {T : ByteArray} (h0 : 0 ≤ z0 ∧ z0 < 604800000) (hT : T.data.toList.all Plain.fitB = true) (hs : T.size ≤ 80) : Plain.checkE ⟨3, z0, false, 0, 0, 0, 0, 0, 0, [], 0, 0, 0, T⟩ = 0 := by
  have ht : Plain.inR z0 0 604799999 = true := by unfold Plain.inR; simp; omega
  rw [(Plain.checkE_3 (x := ⟨3, z0, false, 0, 0, 0, 0, 0, 0, [], 0, 0, 0, T⟩) rfl ht).1 ⟨rfl, rfl, rfl, rfl, rfl, rfl, rfl, rfl, rfl, rfl, rfl⟩]
  show Plain.textE T.data.toList = 0
  unfold Plain.textE
  rw [if_neg (by rw [Plain.len_size]; omega), if_pos hT]
theorem conv_one (n : Int) (h0 : 0 ≤ n) (h1 : n < 256) (W : World) :
    (convert 49 9 (.slice (some ⟨W.heap.size, 0, none⟩) 1 1)).run Tryz.prog (W.alloc (.cells #[.int .u8 n] 5)) = .ok (.string ⟨#[UInt8.ofNat n.toNat]⟩) (W.alloc (.cells #[.int .u8 n] 5)) := by
  have h := run_convert_bytes_back (P := Tryz.prog) (W.alloc (.cells #[.int .u8 n] 5)) 49 9 5 ⟨W.heap.size, 0, none⟩ 1 [UInt8.ofNat n.toNat] Tryz.underlying49 Tryz.underlying5 Tryz.underlying9 (fun j hj => by
    obtain rfl : j = 0 := by simpa using hj
    have e : ((UInt8.ofNat n.toNat).toNat : Int) = n := by rw [UInt8.toNat_ofNat']; omega
    show (W.alloc (.cells #[.int .u8 n] 5)).cell? ⟨W.heap.size, 0, none⟩ = some (.int .u8 ((UInt8.ofNat n.toNat).toNat : Int))
    rw [e]
    exact World.cell?_alloc_mark W _ _ _ 0)
  exact h
set_option maxRecDepth 100000 in
set_option maxHeartbeats 4000000 in
theorem of_txt (l : List Int) (A : Option Addr) (n c : Nat) (kind : Int) (w : World) (hn : l.length = n) (hN : PrL w A l) (hk : kind % 3 = 2) :
    Calls Tryz.prog 8 #[.slice A n c, .int .i64 kind] w (OfPost w) := by
  have HNth := Lib.hid (fun W i (h : PrL W A l) => nth_any l A n c i W hn h)
  have HBel := Lib.hid (fun n k W h1 h2 => below_any n k W h1 h2)
  have HN := Lib.hid hN; clear hN
  have HK := Lib.hid hk; clear hk
  go_enter Tryz.func8, Tryz.ntmps8
  go_wp2_with fail
  refine (HBel.out _ _ _ (by omega) (by omega)).mono ?_
  rintro en w1 ⟨rfl, rfl⟩
  rw [HK.out]
  go_wp2_with fail
  refine (HNth.out _ _ (HN.out.below ((Below.refl _ _).alloc (Nat.le_refl _) _) (Nat.le_refl _))).mono ?_
  rintro en w1 ⟨rfl, rfl⟩
  go_wp2_with fail
  refine (HBel.out _ _ _ (by omega) (by omega)).mono ?_
  rintro en w1 ⟨rfl, rfl⟩
  obtain ⟨z0, hz0⟩ : ∃ z0, nthZ l 0 % 604800000 = z0 := ⟨_, rfl⟩
  have HZ0 := Lib.hid (show 0 ≤ z0 ∧ z0 < 604800000 by omega)
  rw [hz0]
  clear hz0
  go_upto_region 3 with (fail)
  obtain ⟨w2, hw2⟩ : ∃ w2, (w.alloc (.cells #[.int .i64 0, .int .i64 0, .bool false, .int .i64 0, .int .i64 0, .int .i64 0, .int .i64 0, .int .i64 0, .int .i64 0, .slice none 0 0, .int .i64 0, .int .i64 0, .int .i64 0, .string ⟨#[]⟩] 28)).alloc (.cells #[.int .i64 3, .int .i64 z0, .bool false, .int .i64 0, .int .i64 0, .int .i64 0, .int .i64 0, .int .i64 0, .int .i64 0, .slice none 0 0, .int .i64 0, .int .i64 0, .int .i64 0, .string ⟨#[]⟩] 28) = w2 := ⟨_, rfl⟩
  have HX := Lib.hid (show Blk w2 (w.heap.size + 1) 28 _ from hw2 ▸ Blk.new_at (by simp))
  have HR := Lib.hid (show Blk w2 w.heap.size 28 _ from hw2 ▸ (Blk.new_at rfl).alloc _)
  have HB := Lib.hid (show Below w.heap.size w w2 from hw2 ▸ ((Below.refl _ _).alloc (Nat.le_refl _) _).alloc (by simp) _)
  rw [hw2]
  clear hw2
  have H0 : TxR w w2 z0 ⟨#[]⟩ := ⟨HX.out, HR.out, HB.out, rfl⟩
  have HT0 := Lib.hid H0; clear H0 HX HR HB
  obtain ⟨m, hm⟩ : ∃ m, nthZ l 1 % 81 = m := ⟨_, rfl⟩
  have HM := Lib.hid (show 0 ≤ m ∧ m < 81 by omega)
  have HME := Lib.hid hm; clear hm
  go_wp2_with fail
  go_loopw [9] (fun i wr => ∃ (k : Nat) (T : ByteArray), (k : Int) ≤ m ∧ i = .int .i64 k ∧ TxR w wr z0 T ∧ T.size = k) (fun i _ => 81 - (intOf i).toNat)
  case atStart => exact ⟨0, ⟨#[]⟩, HM.out.1, rfl, HT0.out, rfl⟩
  case round =>
    obtain ⟨k, T, hk, rfl, hr, hs⟩ := hrel
    obtain ⟨hX, hR, hB, hT⟩ := hr
    have HX := Lib.hid hX; clear hX
    have HR := Lib.hid hR; clear hR
    have HB := Lib.hid hB; clear hB
    have HT := Lib.hid hT; clear hT
    have HS := Lib.hid hs; clear hs HT0
    go_wp2_with fail
    refine (HNth.out _ _ (HN.out.below HB.out (Nat.le_refl _))).mono ?_
    rintro en w1 ⟨rfl, rfl⟩
    go_wp2_with fail
    refine (HBel.out _ _ _ (by omega) (by omega)).mono ?_
    rintro en w1 ⟨rfl, rfl⟩
    rw [HME.out]
    by_cases hlt : (k : Int) < m
    · have hk80 : (k : Int) < 81 := by have := HM.out; omega
      go_wp2_with fail
      refine (HNth.out _ _ (HN.out.below HB.out (Nat.le_refl _))).mono ?_
      rintro en w1 ⟨rfl, rfl⟩
      go_wp2_with fail
      refine (HBel.out _ _ _ (by omega) (by omega)).mono ?_
      rintro en w1 ⟨rfl, rfl⟩
      generalize hz : _ % (95 : Int) = z
      have HZ := Lib.hid (show 0 ≤ z ∧ z < 95 by omega)
      clear hz
      have hz1 := HZ.out.1
      have hz2 := HZ.out.2
      go_upto_region 7 with (fail)
      obtain ⟨u, hu⟩ : ∃ u, 32 + z = u := ⟨_, rfl⟩
      have HU := Lib.hid (show 32 ≤ u ∧ u ≤ 126 by omega)
      rw [hu]
      clear hu hz1 hz2
      have hcase : u = 44 ∨ u = 42 ∨ u = 36 ∨ ((u == 44) = false ∧ (u == 42) = false ∧ (u == 36) = false) := by simp; omega
      obtain ⟨x0, x1, x2, x3, x4, x5, x6, x7, x8, x9, x10, x11, x12, x13⟩ := Blk.cells14 HX.out
      have hfr := fun o => (HX.out.alloc o).frozen
      have hlt2 := HX.out.lt
      have hne : w.heap.size + 1 ≠ wr.heap.size := by omega
      have cv1 := conv_one 32 (by omega) (by omega) wr
      have cv2 := conv_one u (by have := HU.out; omega) (by have := HU.out; omega) wr
      have hTs : ¬ 9223372036854775807 < T.size + 1 := by have := HS.out; omega
      rcases hcase with rfl | rfl | rfl | ⟨q1, q2, q3⟩
      · go_upto_region 5 with (fail)
        clear x0 x1 x2 x3 x4 x5 x6 x7 x8 x9 x10 x11 x12 x13 hfr cv1 cv2
        have HNX := Lib.hid (TxR.step (c := 32) (o := .cells #[.int .u8 32] 5) HX.out HR.out HB.out HT.out (by decide))
        have hsz := size_snoc T (32)
        
        generalize (wr.setCell ⟨w.heap.size + 1, 13, none⟩ (.string (T ++ ⟨#[32]⟩))).alloc (.cells #[.int .u8 32] 5) = w6 at *
        generalize T ++ (⟨#[32]⟩ : ByteArray) = T6 at *
        go_wp2_with fail
        go_roundw
        case rel => exact ⟨k + 1, T6, by omega, by go_num, HNX.out, by rw [hsz, HS.out]⟩
        case measure => simp [intOf]; omega
      · go_upto_region 5 with (fail)
        clear x0 x1 x2 x3 x4 x5 x6 x7 x8 x9 x10 x11 x12 x13 hfr cv1 cv2
        have HNX := Lib.hid (TxR.step (c := 32) (o := .cells #[.int .u8 32] 5) HX.out HR.out HB.out HT.out (by decide))
        have hsz := size_snoc T (32)
        
        generalize (wr.setCell ⟨w.heap.size + 1, 13, none⟩ (.string (T ++ ⟨#[32]⟩))).alloc (.cells #[.int .u8 32] 5) = w6 at *
        generalize T ++ (⟨#[32]⟩ : ByteArray) = T6 at *
        go_wp2_with fail
        go_roundw
        case rel => exact ⟨k + 1, T6, by omega, by go_num, HNX.out, by rw [hsz, HS.out]⟩
        case measure => simp [intOf]; omega
      · go_upto_region 5 with (fail)
        clear x0 x1 x2 x3 x4 x5 x6 x7 x8 x9 x10 x11 x12 x13 hfr cv1 cv2
        have HNX := Lib.hid (TxR.step (c := 32) (o := .cells #[.int .u8 32] 5) HX.out HR.out HB.out HT.out (by decide))
        have hsz := size_snoc T (32)
        
        generalize (wr.setCell ⟨w.heap.size + 1, 13, none⟩ (.string (T ++ ⟨#[32]⟩))).alloc (.cells #[.int .u8 32] 5) = w6 at *
        generalize T ++ (⟨#[32]⟩ : ByteArray) = T6 at *
        go_wp2_with fail
        go_roundw
        case rel => exact ⟨k + 1, T6, by omega, by go_num, HNX.out, by rw [hsz, HS.out]⟩
        case measure => simp [intOf]; omega
      · go_upto_region 5 with (fail)
        clear x0 x1 x2 x3 x4 x5 x6 x7 x8 x9 x10 x11 x12 x13 hfr cv1 cv2
        have HNX := Lib.hid (TxR.step (c := UInt8.ofNat u.toNat) (o := .cells #[.int .u8 u] 5) HX.out HR.out HB.out HT.out (fit_of HU.out q1 q2 q3))
        have hsz := size_snoc T (UInt8.ofNat u.toNat)
        clear q1 q2 q3
        generalize (wr.setCell ⟨w.heap.size + 1, 13, none⟩ (.string (T ++ ⟨#[UInt8.ofNat u.toNat]⟩))).alloc (.cells #[.int .u8 u] 5) = w6 at *
        generalize T ++ (⟨#[UInt8.ofNat u.toNat]⟩ : ByteArray) = T6 at *
        go_wp2_with fail
        go_roundw
        case rel => exact ⟨k + 1, T6, by omega, by go_num, HNX.out, by rw [hsz, HS.out]⟩
        case measure => simp [intOf]; omega
    · have hkm : (k : Int) = m := by omega
      have hs80 : T.size ≤ 80 := by have := HM.out; have := HS.out; omega
      obtain ⟨x0, x1, x2, x3, x4, x5, x6, x7, x8, x9, x10, x11, x12, x13⟩ := Blk.cells14 HX.out
      obtain ⟨y0, y1, y2, y3, y4, y5, y6, y7, y8, y9, y10, y11, y12, y13⟩ := Blk.zeros HR.out
      have hfr := HR.out.frozen
      have HKM := Lib.hid hkm; clear hkm
      go_wp2_with fail
      obtain ⟨W, hW, hA, hBB, -, -⟩ := set_one14 HR.out rfl HB.out (Nat.le_refl _) (.int .i64 3) (.int .i64 z0) (.bool false) (.int .i64 0) (.int .i64 0) (.int .i64 0) (.int .i64 0) (.int .i64 0) (.int .i64 0) (.slice none 0 0) (.int .i64 0) (.int .i64 0) (.int .i64 0) (.string T)
      rw [hW]
      exact of_ret (x := ⟨3, z0, false, 0, 0, 0, 0, 0, 0, [], 0, 0, 0, T⟩) (by simp) hA (txt_ok HZ0.out HT.out hs80) (World.ownsRow_nil _ _ _ _) hBB
end Go.Proofs.YteeekdffbcbamaaGreatDoor
/-
  WALKS, joined: a valid sentence that numbers select (skyfixlaw41.of).
-/
namespace Go.Proofs.YteeekdffbcbamaaGreatDoor
open Go.RowKit

theorem of_any (l : List Int) (A : Option Addr) (n c : Nat) (kind : Int) (w : World) (hn : l.length = n) (hN : PrL w A l) :
    Calls Tryz.prog 8 #[.slice A n c, .int .i64 kind] w (OfPost w) := by
  have h : kind % 3 = 0 ∨ kind % 3 = 1 ∨ kind % 3 = 2 := by omega
  rcases h with h | h | h
  · exact of_fix l A n c kind w hn hN h
  · exact of_sat l A n c kind w hn hN h
  · exact of_txt l A n c kind w hn hN h
end Go.Proofs.YteeekdffbcbamaaGreatDoor
