/-
  WALKS: the lines of sentences (the reference's Lines).
-/
import Derived.Test.YteeekdffbcbamaaGreatDoorRLineZ
import Derived.Test.YteeekdffbcbamaaGreatDoorG15
namespace Go.Proofs.YteeekdffbcbamaaGreatDoor
open Go.RowKit
set_option maxRecDepth 100000 in
theorem rlines_long (n c : Nat) (A : Option Addr) (w : World) (hn : 200 < n) : Calls Tryz.prog 23 #[.slice A n c] w fun en w' => en = .returned (.tuple #[.string ⟨#[]⟩, .int .i64 4]) ∧ Below w.heap.size w w' := by
  have h2 : (200 : Int) < n := by omega
  go_enter Tryz.func23, Tryz.ntmps23
  go_wp2_with fail
  go_ret2
  exact ⟨rfl, Below.refl _ _⟩
theorem bytes_list (b : ByteArray) : (⟨b.data.toList.toArray⟩ : ByteArray) = b := by cases b; simp
set_option maxRecDepth 100000 in
set_option maxHeartbeats 4000000 in
theorem rlines_any (es : List (Plain.Sn × Value)) (A : Option Addr) (n c : Nat) (w : World) (hn : es.length = n) (hn2 : n ≤ 200) (hp : ∀ e ∈ es, e.1.prns.length ≤ 9223372036854775807 ∧ e.1.text.size ≤ 1000000) (h1 : SnAt w A es) :
    Calls Tryz.prog 23 #[.slice A n c] w (LinePost w (linesR (es.map (·.1)) [])) := by
  have h2 : ¬ (200 : Int) < n := by omega
  have HP := Lib.hid (And.intro hp hn)
  have H1 := Lib.hid h1
  have HRR := Lib.hid (show linesR (es.map (·.1)) [] = linesR ((es.drop 0).map (·.1)) (⟨#[]⟩ : ByteArray).data.toList from rfl)
  clear hp h1 hn
  generalize linesR (es.map (·.1)) [] = R at *
  go_enter Tryz.func23, Tryz.ntmps23
  go_wp2_with fail
  go_loopw [4, 5] (fun s i wr => ∃ (k : Nat) (b : ByteArray), k ≤ n ∧ i = .int .i64 k ∧ s = .string b ∧ Hid (R = linesR ((es.drop k).map (·.1)) b.data.toList) ∧ b.size ≤ k * 500 ∧ Below w.heap.size w wr) (fun _ i _ => n - (intOf i).toNat)
  case atStart => exact ⟨0, ⟨#[]⟩, Nat.zero_le _, rfl, rfl, HRR, Nat.zero_le _, Below.refl _ _⟩
  case round =>
    obtain ⟨k, b, hk, rfl, rfl, hR, hbz, hb⟩ := hrel
    have HB := Lib.hid hb
    clear hb HRR
    by_cases hlt : k < n
    · obtain ⟨hp, hn⟩ := HP.out
      have hk1 : k < es.length := by omega
      obtain ⟨a1, o1, e1, ⟨B1, d1, v1, p1⟩, g1⟩ := (H1.out.below HB.out) k hk1
      have hpl := hp _ (List.getElem_mem hk1)
      have hdr : es.drop k = es[k] :: es.drop (k + 1) := List.drop_eq_getElem_cons hk1
      have hR2 := hR.out
      rw [hdr, List.map_cons] at hR2
      rw [v1] at g1
      have hsz := fun (h : Plain.checkE es[k].1 = 0) => lineB_size h
      have hL := rline_any (es[k]'hk1).1 B1 d1 wr p1 hpl.2 hpl.1
      unfold lineR at hL
      unfold linesR at hR2
      generalize es[k].1 = x at *
      subst e1
      have hlt' : (k : Int) < n := by omega
      clear hp hn hk1 hpl v1 p1 hdr hR
      by_cases her : Plain.checkE x = 0
      · rw [if_pos her] at hL hR2
        have hls := hsz her
        have HL := Lib.hid hL
        obtain ⟨y, hy⟩ : ∃ y, lineB x = y := ⟨_, rfl⟩
        rw [hy] at HL hR2 hls
        clear hL hsz her hy
        obtain ⟨C1, hC1⟩ : ∃ C, b ++ y = C := ⟨_, rfl⟩
        obtain ⟨C2, hC2⟩ : ∃ C, C1 ++ (⟨#[10]⟩ : ByteArray) = C := ⟨_, rfl⟩
        have z1 : C1.size = b.size + y.size := by rw [← hC1, ByteArray.size_append]
        have HZ2 := Lib.hid (show C2.size ≤ (k + 1) * 500 by rw [← hC2, ByteArray.size_append, z1]; show _ + 1 ≤ _; omega)
        have hacc : b.data.toList ++ y.data.toList ++ [10] = C2.data.toList := by rw [← hC2, ← hC1, ByteArray.data_append, ByteArray.data_append]; simp
        rw [hacc] at hR2
        have HR2 := Lib.hid hR2
        have S1 : ∀ W, (Op.stringOp .add b y).run Tryz.prog W = .ok (.string C1) W := fun W => by rw [← hC1]; exact run_string_add_sum W _ _ (by omega)
        have S2 : ∀ W, (Op.stringOp .add C1 (⟨#[10]⟩ : ByteArray)).run Tryz.prog W = .ok (.string C2) W := fun W => by rw [← hC2]; exact run_string_add_sum W _ _ (by show _ + 1 ≤ _; omega)
        clear hR2 hacc hC1 hC2 z1 hls hbz
        unfold snCells at g1 HL
        generalize x.prns.length = pn at *
        have x0 : wr.cell? ⟨a1, o1 + k * 14, none⟩ = some (.int .i64 x.kind) := g1 0 _ rfl
        have x1 : wr.cell? ⟨a1, o1 + k * 14 + 1, none⟩ = some (.int .i64 x.time) := g1 1 _ rfl
        have x2 : wr.cell? ⟨a1, o1 + k * 14 + 2, none⟩ = some (.bool x.ok) := g1 2 _ rfl
        have x3 : wr.cell? ⟨a1, o1 + k * 14 + 3, none⟩ = some (.int .i64 x.p0) := g1 3 _ rfl
        have x4 : wr.cell? ⟨a1, o1 + k * 14 + 4, none⟩ = some (.int .i64 x.p1) := g1 4 _ rfl
        have x5 : wr.cell? ⟨a1, o1 + k * 14 + 5, none⟩ = some (.int .i64 x.p2) := g1 5 _ rfl
        have x6 : wr.cell? ⟨a1, o1 + k * 14 + 6, none⟩ = some (.int .i64 x.l0) := g1 6 _ rfl
        have x7 : wr.cell? ⟨a1, o1 + k * 14 + 7, none⟩ = some (.int .i64 x.l1) := g1 7 _ rfl
        have x8 : wr.cell? ⟨a1, o1 + k * 14 + 8, none⟩ = some (.int .i64 x.l2) := g1 8 _ rfl
        have x9 : wr.cell? ⟨a1, o1 + k * 14 + 9, none⟩ = some (.slice B1 pn d1) := g1 9 _ rfl
        have x10 : wr.cell? ⟨a1, o1 + k * 14 + 10, none⟩ = some (.int .i64 x.prn) := g1 10 _ rfl
        have x11 : wr.cell? ⟨a1, o1 + k * 14 + 11, none⟩ = some (.int .i64 x.lag) := g1 11 _ rfl
        have x12 : wr.cell? ⟨a1, o1 + k * 14 + 12, none⟩ = some (.int .i64 x.power) := g1 12 _ rfl
        have x13 : wr.cell? ⟨a1, o1 + k * 14 + 13, none⟩ = some (.string x.text) := g1 13 _ rfl
        clear g1
        go_wp2_with fail
        refine HL.out.mono ?_
        rintro en w3 ⟨rfl, hb3⟩
        have HB3 := Lib.hid (HB.out.trans (hb3.mono HB.out.size))
        clear hb3 HB HL x0 x1 x2 x3 x4 x5 x6 x7 x8 x9 x10 x11 x12 x13
        simp only
        go_wp2_with fail
        go_roundw
        case rel => exact ⟨k + 1, C2, by omega, by go_num, rfl, HR2, HZ2.out, HB3.out⟩
        case measure => simp [intOf]; omega
      · rw [if_neg her] at hL hR2
        have HL := Lib.hid hL
        subst hR2
        generalize Plain.checkE x = er at *
        have hq : (er != 0) = true := by simpa using her
        clear hL hsz her hbz
        unfold snCells at g1 HL
        generalize x.prns.length = pn at *
        have x0 : wr.cell? ⟨a1, o1 + k * 14, none⟩ = some (.int .i64 x.kind) := g1 0 _ rfl
        have x1 : wr.cell? ⟨a1, o1 + k * 14 + 1, none⟩ = some (.int .i64 x.time) := g1 1 _ rfl
        have x2 : wr.cell? ⟨a1, o1 + k * 14 + 2, none⟩ = some (.bool x.ok) := g1 2 _ rfl
        have x3 : wr.cell? ⟨a1, o1 + k * 14 + 3, none⟩ = some (.int .i64 x.p0) := g1 3 _ rfl
        have x4 : wr.cell? ⟨a1, o1 + k * 14 + 4, none⟩ = some (.int .i64 x.p1) := g1 4 _ rfl
        have x5 : wr.cell? ⟨a1, o1 + k * 14 + 5, none⟩ = some (.int .i64 x.p2) := g1 5 _ rfl
        have x6 : wr.cell? ⟨a1, o1 + k * 14 + 6, none⟩ = some (.int .i64 x.l0) := g1 6 _ rfl
        have x7 : wr.cell? ⟨a1, o1 + k * 14 + 7, none⟩ = some (.int .i64 x.l1) := g1 7 _ rfl
        have x8 : wr.cell? ⟨a1, o1 + k * 14 + 8, none⟩ = some (.int .i64 x.l2) := g1 8 _ rfl
        have x9 : wr.cell? ⟨a1, o1 + k * 14 + 9, none⟩ = some (.slice B1 pn d1) := g1 9 _ rfl
        have x10 : wr.cell? ⟨a1, o1 + k * 14 + 10, none⟩ = some (.int .i64 x.prn) := g1 10 _ rfl
        have x11 : wr.cell? ⟨a1, o1 + k * 14 + 11, none⟩ = some (.int .i64 x.lag) := g1 11 _ rfl
        have x12 : wr.cell? ⟨a1, o1 + k * 14 + 12, none⟩ = some (.int .i64 x.power) := g1 12 _ rfl
        have x13 : wr.cell? ⟨a1, o1 + k * 14 + 13, none⟩ = some (.string x.text) := g1 13 _ rfl
        clear g1
        go_wp2_with fail
        refine HL.out.mono ?_
        rintro en w3 ⟨rfl, hb3⟩
        have HB3 := Lib.hid (HB.out.trans (hb3.mono HB.out.size))
        clear hb3 HB HL x0 x1 x2 x3 x4 x5 x6 x7 x8 x9 x10 x11 x12 x13
        simp only
        go_wp2_with fail
        go_ret2
        exact ⟨rfl, HB3.out⟩
    · obtain rfl : k = n := by omega
      have hlt' : ¬ (k : Int) < k := by omega
      have hd : es.drop k = [] := List.drop_eq_nil_of_le (by rw [HP.out.2]; omega)
      have hR2 := hR.out
      rw [hd] at hR2
      unfold linesR at hR2
      rw [List.map_nil] at hR2
      simp only at hR2
      rw [bytes_list] at hR2
      subst hR2
      clear hR hd
      go_wp2_with fail
      go_ret2
      exact ⟨rfl, HB.out⟩
end Go.Proofs.YteeekdffbcbamaaGreatDoor
