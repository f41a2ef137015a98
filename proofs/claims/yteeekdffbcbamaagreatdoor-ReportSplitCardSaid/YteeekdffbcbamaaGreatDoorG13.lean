/-
  WALKS: Split of any text, of the program and of the reference (ReportSplits).
-/
import Derived.Test.YteeekdffbcbamaaGreatDoorG16
import Derived.Test.YteeekdffbcbamaaGreatDoorParsesW
import Derived.Test.YteeekdffbcbamaaGreatDoorG15
import Derived.Test.YteeekdffbcbamaaGreatDoorG14
namespace Go.Proofs.YteeekdffbcbamaaGreatDoor
open Go.RowKit Go.Shelf
attribute [local go_sem] Oper.semAt_some
/-- Sentences, the numbers of the lines that are none, and an error, as Split hands them over. -/
def SplPost (w : World) (r : List Plain.Sn × List Int × Int) (en : Ending) (w' : World) : Prop :=
  ∃ A c A3 c3 es, en = .returned (.tuple #[.slice A r.1.length c, .slice A3 r.2.1.length c3, .int .i64 r.2.2]) ∧ SnAt w' A es ∧ es.map (·.1) = r.1 ∧ PrL w' A3 r.2.1 ∧ Below w.heap.size w w'
namespace Plain
def split (s : ByteArray) : List Sn × List Int × Int := if s.size ≤ 100000 then (goodL (lines s), badL (lines s), 0) else ([], [], 4)
theorem split_prns (s : ByteArray) : ∀ x ∈ (split s).1, x.prns.length ≤ 9223372036854775807 := by
  unfold split
  split
  · intro x hx
    obtain ⟨a, _, ha⟩ := List.mem_filterMap.1 hx
    split at ha
    · injection ha with ha
      rw [← ha]
      exact parse_len a.2
    · cases ha
  · intro x hx
    cases hx
theorem split_len (s : ByteArray) : (split s).1.length ≤ 100000 ∧ (split s).2.1.length ≤ 100000 := by
  unfold split
  split
  · have h1 := good_len (lines s)
    have h2 := lines_len s
    exact ⟨by show (goodL (lines s)).length ≤ _; omega, by show (badL (lines s)).length ≤ _; omega⟩
  · exact ⟨by decide, by decide⟩
end Plain
theorem splPost_short {B : Nat} {w w' : World} {s : ByteArray} {v2 v3 : Value} {es : List (Plain.Sn × Value)} (hs : s.size ≤ 100000) (hS : SnR B w' v2 v3 es (Plain.badL (Plain.lines s))) (hE : es.map (·.1) = Plain.goodL (Plain.lines s)) (hb : Below w.heap.size w w') :
    SplPost w (Plain.split s) (.returned (.tuple #[v2, v3, .int .i64 0])) w' := by
  unfold Plain.split
  rw [if_pos hs]
  obtain ⟨A, c, rfl, hA⟩ := hS.reads
  obtain ⟨A3, c3, rfl⟩ := own_formQ hS.2.1
  have h3 := own_PrL (own_less hS.2.1 (Nat.zero_le _))
  have hl : es.length = (Plain.goodL (Plain.lines s)).length := by rw [← hE, List.length_map]
  rw [hl]
  exact ⟨A, c, A3, c3, es, rfl, hA, hE, h3, hb⟩
theorem splPost_long {w w' : World} {s : ByteArray} (hs : ¬ s.size ≤ 100000) (hb : Below w.heap.size w w') : SplPost w (Plain.split s) (.returned (.tuple #[.slice none 0 0, .slice none 0 0, .int .i64 4])) w' := by
  unfold Plain.split
  rw [if_neg hs]
  exact ⟨none, 0, none, 0, [], rfl, fun j hj => absurd hj (by simp), rfl, PrL.nil _ _, hb⟩
set_option maxRecDepth 100000 in
set_option maxHeartbeats 4000000 in
theorem split_long (s : ByteArray) (w : World) (hs : ¬ s.size ≤ 100000) : Calls Tryz.prog 10 #[.string s] w (SplPost w (Plain.split s)) := by
  have hs2 : (100000 : Int) < s.size := by omega
  have HS := Lib.hid hs; clear hs
  refine (callsIn_wide (n := 3)).1 ?_
  refine callsIn_of_wp_marks Tryz.func10 rfl trivial ?_ rfl
  simp only [Tryz.ntmps10, List.size_toArray, List.length_cons, List.length_nil, Nat.reduceAdd, Nat.reduceSub, Array.replicate_succ, Array.replicate_zero, List.push_toArray, List.append_toArray, List.nil_append, List.cons_append]
  gi_wp2_with fail
  have hc2 := ((Boxed.new w 23 (.slice none 0 0)).alloc (.cells #[.slice none 0 0] 22)).cell
  have hc3 := (Boxed.new (w.alloc (.cells #[.slice none 0 0] 23)) 22 (.slice none 0 0)).cell
  rw [World.size_alloc] at hc3
  refine ⟨.tuple #[.slice none 0 0, .slice none 0 0, .int .i64 4], ?_, splPost_long HS.out (((Below.refl _ _).alloc (Nat.le_refl _) _).alloc (by simp) _)⟩
  simp [results, Tryz.results10, go_sem, hc2, hc3]
set_option maxRecDepth 100000 in
set_option maxHeartbeats 4000000 in
theorem rsplit_long (s : ByteArray) (w : World) (hs : ¬ s.size ≤ 100000) : Calls Tryz.prog 24 #[.string s] w (SplPost w (Plain.split s)) := by
  have hs2 : (100000 : Int) < s.size := by omega
  have HS := Lib.hid hs; clear hs
  go_enter Tryz.func24, Tryz.ntmps24
  go_wp2_with fail
  go_ret3
  exact splPost_long HS.out (Below.refl _ _)
theorem split_all (s : ByteArray) (w : World) (he : Env w) : Calls Tryz.prog 10 #[.string s] w (SplPost w (Plain.split s)) := by
  by_cases hs : s.size ≤ 100000
  · refine (split_any s w he hs).mono ?_
    rintro en w' ⟨v2, v3, es, rfl, hS, hE, hb⟩
    exact splPost_short hs hS hE hb
  · exact split_long s w hs
theorem rsplit_all (s : ByteArray) (w : World) : Calls Tryz.prog 24 #[.string s] w (SplPost w (Plain.split s)) := by
  by_cases hs : s.size ≤ 100000
  · refine (rsplit_any s w hs).mono ?_
    rintro en w' ⟨v2, v3, es, rfl, hS, hE, hb⟩
    exact splPost_short hs hS hE hb
  · exact rsplit_long s w hs
end Go.Proofs.YteeekdffbcbamaaGreatDoor
/-
  WALKS: the law ReportSplit.
-/
namespace Go.Proofs.YteeekdffbcbamaaGreatDoor
open Go.RowKit Go.Shelf
theorem Plain.one_small {x : Plain.Sn} (h : Plain.checkE x = 0) : x.text.size ≤ 80 ∧ x.prns.length ≤ 16 := by
  rcases Plain.zero_kind h with hk | hk | hk
  · obtain ⟨⟨_, _, _, h4⟩, _, h3, _⟩ := Plain.zero_1 h hk
    refine ⟨?_, h3⟩
    rw [← Plain.len_size, h4]
    exact Nat.zero_le _
  · obtain ⟨⟨_, _, _, _, _, _, h7, h8⟩, _⟩ := Plain.zero_2 h hk
    refine ⟨?_, by rw [h7]; exact Nat.zero_le _⟩
    rw [← Plain.len_size, h8]
    exact Nat.zero_le _
  · obtain ⟨⟨_, _, _, _, _, _, _, h8, _⟩, h9⟩ := Plain.zero_3 h hk
    refine ⟨?_, by rw [h8]; exact Nat.zero_le _⟩
    rw [← Plain.len_size]
    exact (Plain.text_le h9).1
/-- In the law's loop: the pieces of the text so far. -/
def OneI (w : World) (v2 v3 : Value) (ps : List ByteArray) (k : Nat) (wr : World) : Prop :=
  ∃ es, SnR w.heap.size wr v2 v3 es (Plain.badL (Plain.numF 0 ps)) ∧ es.map (·.1) = Plain.goodL (Plain.numF 0 ps) ∧ (∀ x ∈ Plain.goodL (Plain.numF 0 ps), Plain.checkE x = 0) ∧ (∀ p ∈ ps, (10 : UInt8) ∉ p.data.toList) ∧
    (Plain.joinN ps).size ≤ k * 600 ∧ ps.length ≤ 2 * k ∧ Below w.heap.size w wr
def junkB (k : Nat) : ByteArray := if k = 1 then ⟨#[]⟩ else if k = 2 then ⟨#[36, 84, 88, 84, 44, 49, 44, 97, 42, 48, 48]⟩ else ⟨#[110, 111, 32, 115, 101, 110, 116, 101, 110, 99, 101]⟩
theorem junk_parse (k : Nat) : (Plain.parse (junkB k)).2.1 ≠ 0 := by
  unfold junkB
  split
  · exact Plain.bad_1
  · split
    · exact Plain.bad_2
    · exact Plain.bad_3
theorem junk_feed (k : Nat) : (10 : UInt8) ∉ (junkB k).data.toList := by
  unfold junkB
  split
  · decide
  · split <;> decide
theorem junk_size (k : Nat) : (junkB k).size ≤ 11 := by
  unfold junkB
  split
  · decide
  · split <;> decide
set_option maxRecDepth 100000 in
theorem junk_cell (w : World) (k : Nat) (h0 : 1 ≤ k) (h4 : k < 4) : (w.alloc (.cells #[.string ⟨#[]⟩, .string ⟨#[]⟩, .string ⟨#[36, 84, 88, 84, 44, 49, 44, 97, 42, 48, 48]⟩, .string ⟨#[110, 111, 32, 115, 101, 110, 116, 101, 110, 99, 101]⟩] 9)).cell? ⟨w.heap.size, k, none⟩ = some (.string (junkB k)) := by
  have h := (Blk.new_at (w := w) (t := 9) (cs := #[.string ⟨#[]⟩, .string ⟨#[]⟩, .string ⟨#[36, 84, 88, 84, 44, 49, 44, 97, 42, 48, 48]⟩, .string ⟨#[110, 111, 32, 115, 101, 110, 116, 101, 110, 99, 101]⟩]) rfl).cell k
  rw [h]
  have : k = 1 ∨ k = 2 ∨ k = 3 := by omega
  rcases this with rfl | rfl | rfl <;> rfl
theorem lines_one {x : Plain.Sn} (h : Plain.checkE x = 0) : linesR [x] [] = (lineB x ++ ⟨#[10]⟩, 0) := by
  rw [Plain.linesR_all (xs := [x]) (fun y hy => by obtain rfl : y = x := by simpa using hy
                                                   exact h)]
  refine Prod.ext ?_ rfl
  apply Plain.bytes_ext
  simp [Plain.joinN, ByteArray.data_append]
theorem one_at (W : World) (x : Plain.Sn) (B5 : Option Addr) (d5 : Nat) (hP : PrL W B5 x.prns) : SnAt (W.alloc (.cells (snCells x (.slice B5 x.prns.length d5)) 28)) (some ⟨W.heap.size, 0, none⟩) [(x, .slice B5 x.prns.length d5)] := by
  intro j hj
  obtain rfl : j = 0 := by simpa using hj
  refine ⟨W.heap.size, 0, rfl, ⟨B5, d5, rfl, hP.below ((Below.refl _ _).alloc (Nat.le_refl _) _) (Nat.le_refl _)⟩, fun k u hk => ?_⟩
  rw [show 0 + 0 * 14 + k = k by omega]
  exact ((Blk.new_at (w := W) (t := 28) (cs := snCells x (.slice B5 x.prns.length d5)) rfl).cell k).trans hk
theorem one_step {w wr1 w5 w8 w10 : World} {ps : List ByteArray} {k : Nat} {es : List (Plain.Sn × Value)} {x : Plain.Sn} {v2 v3 v5 v' : Value} (hS : SnR w.heap.size wr1 v2 v3 es (Plain.badL (Plain.numF 0 ps))) (hES : es.map (·.1) = Plain.goodL (Plain.numF 0 ps))
    (hG : ∀ y ∈ Plain.goodL (Plain.numF 0 ps), Plain.checkE y = 0) (hF : ∀ p ∈ ps, (10 : UInt8) ∉ p.data.toList) (hz : (Plain.joinN ps).size ≤ k * 600 + 60) (hl : ps.length ≤ 2 * k + 1) (hB : Below w.heap.size w wr1) (hx : Plain.checkE x = 0)
    (hb5 : Below wr1.heap.size wr1 w5) (ho5 : w5.ownsRow wr1.heap.size 3 1 v5 x.prns.length (x.prns.map (Value.int .i64))) (hb8 : Below w5.heap.size w5 w8) (hg : w8.grownBy w10 v2.ownBlock)
    (hown : w10.ownsRow w.heap.size 28 14 v' (es.length + 1) (rowCells es ++ (snCells x v5).toList)) : OneI w v' v3 (ps ++ [lineB x]) (k + 1) w10 := by
  have hpl := Plain.parse_line hx
  have hy := Plain.goodL_yes (pre := Plain.numF 0 ps) (x := (0 + ps.length, lineB x)) (by rw [hpl])
  rw [← Plain.numF_snoc, hpl] at hy
  have hls := lineB_size hx
  refine ⟨es ++ [(x, v5)], ?_, ?_, ?_, ?_, ?_, ?_, ?_⟩
  · rw [hy.2]
    exact snR_good hS hB.size hb5 ho5 hb8 hg hown
  · rw [hy.1, List.map_append, hES]; rfl
  · rw [hy.1]
    intro y hm
    rcases List.mem_append.1 hm with hm | hm
    · exact hG y hm
    · obtain rfl : y = x := by simpa using hm
      exact hx
  · intro p hm
    rcases List.mem_append.1 hm with hm | hm
    · exact hF p hm
    · obtain rfl : p = lineB x := by simpa using hm
      exact Plain.line_feed hx
  · rw [Plain.joinN_snoc, ByteArray.size_append, ByteArray.size_append]
    have : (⟨#[10]⟩ : ByteArray).size = 1 := rfl
    omega
  · rw [List.length_append]
    simp
    omega
  · have hb8' : Below wr1.heap.size wr1 w8 := hb5.trans (hb8.mono hb5.size)
    exact (hB.trans (hb8'.mono hB.size)).grown hg (Nat.le_trans hB.size hb8'.size) (fun r e => own_ge (hS.below hb8').1 e)
theorem Plain.joinN_lines_size : ∀ (xs : List Plain.Sn), (∀ x ∈ xs, Plain.checkE x = 0) → (Plain.joinN (xs.map lineB)).size ≤ xs.length * 495
  | [], _ => Nat.zero_le _
  | x :: r, h => by
    have h1 := lineB_size (h x List.mem_cons_self)
    have h2 := Plain.joinN_lines_size r (fun y hy => h y (List.mem_cons_of_mem _ hy))
    rw [← Plain.len_size, Plain.joinN_list] at h2 ⊢
    rw [List.map_cons, List.flatMap_cons, List.length_append, List.length_append, Plain.len_size]
    simp only [List.length_cons, List.length_nil]
    omega
theorem split_first {ps : List ByteArray} (hF : ∀ p ∈ ps, (10 : UInt8) ∉ p.data.toList) (hs : (Plain.joinN ps).size ≤ 100000) : Plain.split (Plain.joinN ps) = (Plain.goodL (Plain.numF 0 ps), Plain.badL (Plain.numF 0 ps), 0) := by
  unfold Plain.split
  rw [if_pos hs, Plain.lines_join hF]
theorem split_second {xs : List Plain.Sn} (h : ∀ x ∈ xs, Plain.checkE x = 0) (hl : xs.length ≤ 100) : Plain.split (Plain.joinN (xs.map lineB)) = (xs, [], 0) := by
  have hs := Plain.joinN_lines_size xs h
  obtain ⟨h1, h2⟩ := Plain.split_all_good h
  unfold Plain.split
  rw [if_pos (by omega), h1, h2]
set_option maxRecDepth 100000 in
set_option maxHeartbeats 4000000 in
theorem one_of (l ks : List Int) (A1 A2 : Option Addr) (n1 n2 c1 c2 : Nat) (w : World) (he : Env w) (hn1 : l.length = n1) (hn2 : ks.length = n2) (hN1 : PrL w A1 l) (hN2 : PrL w A2 ks) :
    Calls Tryz.prog 3 #[.slice A1 n1 c1, .slice A2 n2 c2] w fun en w' => en = .returned (.bool true) ∧ Below w.heap.size w w' := by
  have HBel := Lib.hid (fun n k W h1 h2 => below_any n k W h1 h2)
  have HOF := Lib.hid (fun kind W h => of_any l A1 n1 c1 kind W hn1 h)
  have HLS := Lib.hid (fun es A n c W he hn h2 hp h1 => lines_any es A n c W he hn h2 hp h1)
  have HNS := Lib.hid (And.intro hN1 (And.intro hN2 (And.intro hn1 hn2)))
  have HE := Lib.hid he
  have H0 : OneI w (.slice none 0 0) (.slice none 0 0) [] 0 w := ⟨[], ⟨World.ownsRow_nil _ _ _ _, World.ownsRow_nil _ _ _ _, fun e h => by simp at h⟩, rfl, fun x h => absurd h (by simp [Plain.goodL, Plain.numF]), fun p h => absurd h (by simp), Nat.zero_le _, Nat.zero_le _, Below.refl _ _⟩
  have HI0 := Lib.hid H0
  clear he hn1 hn2 hN1 hN2 H0
  go_enter Tryz.func3, Tryz.ntmps3
  go_wp2_with fail
  go_loopw [5, 6, 7, 8, 9] (fun v2 tx v3 ln i wr => ∃ (k : Nat) (ps : List ByteArray), k ≤ 8 ∧ k ≤ n2 ∧ i = .int .i64 k ∧ ln = .int .i64 (ps.length : Int) ∧ tx = .string (Plain.joinN ps) ∧ OneI w v2 v3 ps k wr) (fun _ _ _ _ i _ => 8 - (intOf i).toNat)
  case atStart => exact ⟨0, [], Nat.zero_le _, Nat.zero_le _, rfl, rfl, rfl, HI0.out⟩
  case round =>
    obtain ⟨k, ps, hk8, hkn, rfl, rfl, rfl, hI⟩ := hrel
    clear HI0
    by_cases hlt : k < 8 ∧ k < n2
    · have hl1 : (k : Int) < 8 := by omega
      have hl2 : (k : Int) < n2 := by omega
      obtain ⟨es, hS, hES, hG, hF, hSz, hLen, hB⟩ := hI
      have HSN := Lib.hid hS
      have HES := Lib.hid (And.intro hES (And.intro hG hF))
      have HSZ := Lib.hid (And.intro hSz hLen)
      have HB := Lib.hid hB
      clear hS hES hG hF hSz hLen hB
      obtain ⟨hN1, hN2, hn1, hn2⟩ := HNS.out
      obtain ⟨a2, e2, hcw⟩ := hN2 k (by omega)
      have hc := (HB.out.cell (cell_lt hcw)).trans hcw
      have HCW := Lib.hid hcw
      clear hcw
      subst e2
      generalize ks[k] = kd at *
      obtain ⟨g2, o2, z2⟩ := a2
      clear hN1 hN2 hn1 hn2
      obtain ⟨z, hz⟩ : ∃ z, wrap64 (kd.tdiv 3) = z := ⟨_, rfl⟩
      have H7 := Lib.hid (HBel.out z 4 wr (by decide) (by decide))
      obtain ⟨kk, hkk⟩ : ∃ kk : Nat, z % 4 = kk := ⟨(z % 4).toNat, by omega⟩
      have hk4 : kk < 4 := by omega
      rw [hkk] at H7
      rw [← hz] at H7
      clear hz hkk
      go_wp2_with fail
      refine H7.out.mono ?_
      rintro en w1 ⟨rfl, rfl⟩
      clear H7
      by_cases hk0 : kk = 0
      · subst hk0
        go_upto_region 13 with (fail)
        have HSN1 := HSN
        have HES1 := HES
        have HSZ1 := Lib.hid (show (Plain.joinN ps).size ≤ 4800 + 60 ∧ ps.length ≤ 17 ∧ (Plain.joinN ps).size ≤ k * 600 + 60 ∧ ps.length ≤ 2 * k + 1 by have := HSZ.out.1; have := HSZ.out.2; omega)
        have HB1 := HB
        clear HSN HES HSZ HB
        generalize ps = ps1 at *
        generalize wr = wr1 at *
        generalize u7 = v31 at *
        clear hc
        have hc := (HB1.out.cell (cell_lt HCW.out)).trans HCW.out
        have HC := Lib.hid HCW.out
        clear HCW
        have hL17 : (ps1.length : Int) ≤ 17 := by have := HSZ1.out.2.1; omega
        go_wp2_with fail
        refine (HOF.out kd wr1 (HNS.out.1.below HB1.out (Nat.le_refl _))).mono ?_
        rintro en w5 ⟨x, v, rfl, hx, ho5, hb5⟩
        obtain ⟨B5, d5, rfl⟩ := own_formQ ho5
        have hxs := Plain.one_small hx
        have hpl := Plain.parse_line hx
        have HX := Lib.hid hx
        have HO5 := Lib.hid ho5
        have HB5 := Lib.hid hb5
        clear ho5 hb5 HOF hx
        unfold snCells
        go_upto_region 14 with (fail)
        obtain ⟨w6, hw6⟩ : ∃ w6, w5.alloc (.cells #[.int .i64 x.kind, .int .i64 x.time, .bool x.ok, .int .i64 x.p0, .int .i64 x.p1, .int .i64 x.p2, .int .i64 x.l0, .int .i64 x.l1, .int .i64 x.l2, .slice B5 x.prns.length d5, .int .i64 x.prn, .int .i64 x.lag, .int .i64 x.power, .string x.text] 28) = w6 := ⟨_, rfl⟩
        have hX6 : Blk w6 w5.heap.size 28 #[.int .i64 x.kind, .int .i64 x.time, .bool x.ok, .int .i64 x.p0, .int .i64 x.p1, .int .i64 x.p2, .int .i64 x.l0, .int .i64 x.l1, .int .i64 x.l2, .slice B5 x.prns.length d5, .int .i64 x.prn, .int .i64 x.lag, .int .i64 x.power, .string x.text] := hw6 ▸ (Blk.new_at rfl)
        have hb6 : Below w5.heap.size w5 w6 := hw6 ▸ (Below.refl _ _).alloc (Nat.le_refl _) _
        have hs6 : w6.heap.size = w5.heap.size + 1 := by rw [← hw6]; simp
        rw [hw6]
        clear hw6
        obtain ⟨x0, x1, x2, x3, x4, x5, x6, x7, x8, x9, x10, x11, x12, x13⟩ := Blk.cells14 hX6
        have HX6 := Lib.hid hX6
        have hP6 := (own_PrL (own_less HO5.out (Nat.zero_le _))).below hb6 (Nat.le_refl _)
        have hA7 := one_at w6 x B5 d5 hP6
        unfold snCells at hA7
        go_wp2_with fail
        obtain ⟨w7, hw7⟩ : ∃ w7, w6.alloc (.cells #[.int .i64 x.kind, .int .i64 x.time, .bool x.ok, .int .i64 x.p0, .int .i64 x.p1, .int .i64 x.p2, .int .i64 x.l0, .int .i64 x.l1, .int .i64 x.l2, .slice B5 x.prns.length d5, .int .i64 x.prn, .int .i64 x.lag, .int .i64 x.power, .string x.text] 28) = w7 := ⟨_, rfl⟩
        rw [hw7, hs6] at hA7
        have hb7 : Below w6.heap.size w6 w7 := hw7 ▸ (Below.refl _ _).alloc (Nat.le_refl _) _
        rw [hw7]
        clear hw7 x0 x1 x2 x3 x4 x5 x6 x7 x8 x9 x10 x11 x12 x13 hX6
        have hb57 : Below w5.heap.size w5 w7 := hb6.trans (hb7.mono (by omega))
        have hb17 : Below wr1.heap.size wr1 w7 := HB5.out.trans (hb57.mono HB5.out.size)
        have hB7 : Below w.heap.size w w7 := HB1.out.trans (hb17.mono HB1.out.size)
        have hL7 := HLS.out [(x, .slice B5 x.prns.length d5)] (some ⟨w5.heap.size + 1, 0, none⟩) 1 1 w7 (HE.out.below hB7 HE.out.1) rfl (by decide) (fun e he => by
          obtain rfl : e = (x, .slice B5 x.prns.length d5) := by simpa using he
          have h1 := hxs.1
          have h2 := hxs.2
          exact ⟨by show x.prns.length ≤ _; omega, by show x.text.size ≤ _; omega⟩) hA7
        rw [show List.map (fun e : Plain.Sn × Value => e.1) [(x, .slice B5 x.prns.length d5)] = [x] from rfl, lines_one HX.out] at hL7
        have HL7 := Lib.hid hL7
        have HX7 := Lib.hid (HX6.out.below hb7 (by omega))
        have HB57 := Lib.hid hb57
        have hs7 := hb7.size
        clear hL7 hA7 hb57 hb17 hB7 hb6 hb7 hP6 HX6
        refine HL7.out.mono ?_
        rintro en w8 ⟨rfl, hb8⟩
        have HX8 := Lib.hid (HX7.out.below hb8 (by omega))
        have HB58 := Lib.hid (HB57.out.trans (hb8.mono HB57.out.size))
        clear hb8 HL7 HX7 HB57
        obtain ⟨x0, x1, x2, x3, x4, x5, x6, x7, x8, x9, x10, x11, x12, x13⟩ := Blk.cells14 HX8.out
        have hz1 : (Plain.joinN ps1).size ≤ 4860 := HSZ1.out.1
        have hz3 := lineB_size HX.out
        have HS8 := Lib.hid (HSN1.out.below (HB5.out.trans (HB58.out.mono HB5.out.size)))
        obtain ⟨j0, hj, hv0, hv1, hv2⟩ := info_parts infoSn
        have hel : es.length ≤ 100 := by
          have h1 := (Plain.good_len (Plain.numF 0 ps1)).1
          rw [Plain.numF_len] at h1
          have h2 := congrArg List.length HES1.out.1
          rw [List.length_map] at h2
          omega
        simp only
        go_wp2_with (at_builtin; refine wpList_append_own_at _ rfl _ _ 23 rfl w.heap.size 28 j0 (.agg #[.int .i64 0, .int .i64 0, .bool false, .int .i64 0, .int .i64 0, .int .i64 0, .int .i64 0, .int .i64 0, .int .i64 0, .slice none 0 0, .int .i64 0, .int .i64 0, .int .i64 0, .string ⟨#[]⟩]) 14 136 Tryz.underlying23 hj hv0 hv1 hv2 rfl (by decide) _ _ _ rfl (HS8.out.1.alloc _) ⟨w8.heap.size, 0, none⟩ 1 1 (#[.int .i64 x.kind, .int .i64 x.time, .bool x.ok, .int .i64 x.p0, .int .i64 x.p1, .int .i64 x.p2, .int .i64 x.l0, .int .i64 x.l1, .int .i64 x.l2, .slice B5 x.prns.length d5, .int .i64 x.prn, .int .i64 x.lag, .int .i64 x.power, .string x.text] : Array Value).toList rfl rfl ?_ ?_ ?_ ?_ ?_ ?_; rotate_left 5; intro v' w10 hown10 hg10 _ _; have HOW := Lib.hid hown10; clear hown10; have HG10 := Lib.hid hg10; clear hg10)
        rotate_left 1
        · simp [Value.oneCell']
        · simp only [maxLen]; omega
        · omega
        · have h1 := HB1.out.size
          have h2 := HB5.out.size
          have h3 := HB58.out.size
          simp
          omega
        have HNX := one_step HSN1.out HES1.out.1 HES1.out.2.1 HES1.out.2.2 HSZ1.out.2.2.1 HSZ1.out.2.2.2 HB1.out HX.out HB5.out HO5.out (HB58.out.alloc HB58.out.size _) HG10.out HOW.out
        have hln : (ps1 ++ [lineB x]).length = ps1.length + 1 := by simp
        refine ⟨⟨k + 1, ps1 ++ [lineB x], by omega, by omega, by go_num, by rw [hln]; go_num, by rw [Plain.joinN_snoc], HNX⟩, ?_⟩
        simp [intOf]
        omega
      · have hk1 : (0 : Int) < kk := by omega
        have hJ := junk_cell wr kk (by omega) hk4
        have hk4i : (kk : Int) < 4 := by omega
        have hk1n : 0 < kk := by omega
        have hz1 : (Plain.joinN ps).size ≤ 4800 := by have := HSZ.out.1; omega
        have hz2 := junk_size kk
        have hLb : (ps.length : Int) ≤ 100 := by have := HSZ.out.2; omega
        obtain ⟨i0, hi, hy0, hy1, hy2⟩ := info_parts info3
        have hbl : (Plain.badL (Plain.numF 0 ps)).length ≤ 100 := by
          have h1 := (Plain.good_len (Plain.numF 0 ps)).2
          rw [Plain.numF_len] at h1
          omega
        go_upto_region 13 with (at_builtin; refine wpList_append_own_at _ rfl _ _ 22 rfl w.heap.size 3 i0 (.int .i64 0) 1 8 Tryz.underlying22 hi hy0 hy1 hy2 rfl (by decide) _ _ _ rfl ((HSN.out.2.1.alloc _).alloc _) ⟨wr.heap.size + 1, 0, none⟩ 1 1 [.int .i64 (ps.length : Int)] rfl rfl ?_ ?_ ?_ ?_ ?_ ?_; rotate_left 5; intro v' w9 hown9 hg9 _ hat9; have HOW := Lib.hid hown9; clear hown9; have HG9 := Lib.hid hg9; clear hg9; have HAT := Lib.hid hat9; clear hat9)
        rotate_left 1
        · exact cell_new_at _ _ _ _ (by simp)
        · simp [Value.oneCell']
        · simp only [maxLen]; omega
        · omega
        · have := HB.out.size; simp; omega
        have hjf := junk_feed kk
        have hjp := junk_parse kk
        have hps : Plain.joinN ps ++ junkB kk ++ ⟨#[10]⟩ = Plain.joinN (ps ++ [junkB kk]) := by rw [Plain.joinN_snoc, ByteArray.append_assoc]
        have hno := Plain.goodL_no (pre := Plain.numF 0 ps) (x := (0 + ps.length, junkB kk)) hjp
        rw [← Plain.numF_snoc] at hno
        have hb8 : Below wr.heap.size wr ((wr.alloc (.cells #[.string ⟨#[]⟩, .string ⟨#[]⟩, .string ⟨#[36, 84, 88, 84, 44, 49, 44, 97, 42, 48, 48]⟩, .string ⟨#[110, 111, 32, 115, 101, 110, 116, 101, 110, 99, 101]⟩] 9)).alloc (.cells #[.int .i64 (ps.length : Int)] 3)) :=
          ((Below.refl _ _).alloc (Nat.le_refl _) _).alloc (by simp) _
        have hS9 := snR_bad (i := (ps.length : Int)) HSN.out hb8 HG9.out HOW.out HAT.out
        have hB9 : Below w.heap.size w w9 := (HB.out.trans (hb8.mono HB.out.size)).grown HG9.out (Nat.le_trans HB.out.size hb8.size) (fun r e => own_ge (HSN.out.below hb8).2.1 e)
        have hsz9 : (Plain.joinN (ps ++ [junkB kk])).size = (Plain.joinN ps).size + (junkB kk).size + 1 := by
          rw [← hps, ByteArray.size_append, ByteArray.size_append]; rfl
        have hln9 : (ps ++ [junkB kk]).length = ps.length + 1 := by simp
        have hHH : (∀ x ∈ Plain.goodL (Plain.numF 0 (ps ++ [junkB kk])), Plain.checkE x = 0) ∧ (∀ p ∈ ps ++ [junkB kk], (10 : UInt8) ∉ p.data.toList) := by
          refine ⟨?_, ?_⟩
          · rw [hno.1]; exact HES.out.2.1
          · intro p hp
            rcases List.mem_append.1 hp with hp | hp
            · exact HES.out.2.2 p hp
            · obtain rfl : p = junkB kk := by simpa using hp
              exact hjf
        have hln9i : ((ps.length : Int) + 1) = (((ps ++ [junkB kk]).length : Nat) : Int) := by rw [hln9]; rfl
        rw [show ((ps.length : Nat) : Int) = ((0 + ps.length : Nat) : Int) by rw [Nat.zero_add], ← hno.2] at hS9
        have HSN1 := Lib.hid hS9
        have HES1 := Lib.hid (And.intro (HES.out.1.trans hno.1.symm) hHH)
        have HSZ1 := Lib.hid (show (Plain.joinN (ps ++ [junkB kk])).size ≤ 4800 + 60 ∧ (ps ++ [junkB kk]).length ≤ 17 ∧ (Plain.joinN (ps ++ [junkB kk])).size ≤ k * 600 + 60 ∧ (ps ++ [junkB kk]).length ≤ 2 * k + 1 by have := HSZ.out.1; have := HSZ.out.2; rw [hsz9, hln9]; omega)
        have HB1 := Lib.hid hB9
        rw [hps, hln9i]
        clear hS9 hB9 hb8 hno hps hHH hln9i hln9 hsz9 hjf hjp hz1 hz2 hJ hbl hLb HSN HES HSZ HB HG9 HOW HAT hi hy0 hy1 hy2 hk1 hk4i hk1n hk0
        generalize ps ++ [junkB kk] = ps1 at *
        generalize w9 = wr1 at *
        generalize v' = v31 at *
        clear hc
        have hc := (HB1.out.cell (cell_lt HCW.out)).trans HCW.out
        have HC := Lib.hid HCW.out
        clear HCW
        have hL17 : (ps1.length : Int) ≤ 17 := by have := HSZ1.out.2.1; omega
        go_wp2_with fail
        refine (HOF.out kd wr1 (HNS.out.1.below HB1.out (Nat.le_refl _))).mono ?_
        rintro en w5 ⟨x, v, rfl, hx, ho5, hb5⟩
        obtain ⟨B5, d5, rfl⟩ := own_formQ ho5
        have hxs := Plain.one_small hx
        have hpl := Plain.parse_line hx
        have HX := Lib.hid hx
        have HO5 := Lib.hid ho5
        have HB5 := Lib.hid hb5
        clear ho5 hb5 HOF hx
        unfold snCells
        go_upto_region 14 with (fail)
        obtain ⟨w6, hw6⟩ : ∃ w6, w5.alloc (.cells #[.int .i64 x.kind, .int .i64 x.time, .bool x.ok, .int .i64 x.p0, .int .i64 x.p1, .int .i64 x.p2, .int .i64 x.l0, .int .i64 x.l1, .int .i64 x.l2, .slice B5 x.prns.length d5, .int .i64 x.prn, .int .i64 x.lag, .int .i64 x.power, .string x.text] 28) = w6 := ⟨_, rfl⟩
        have hX6 : Blk w6 w5.heap.size 28 #[.int .i64 x.kind, .int .i64 x.time, .bool x.ok, .int .i64 x.p0, .int .i64 x.p1, .int .i64 x.p2, .int .i64 x.l0, .int .i64 x.l1, .int .i64 x.l2, .slice B5 x.prns.length d5, .int .i64 x.prn, .int .i64 x.lag, .int .i64 x.power, .string x.text] := hw6 ▸ (Blk.new_at rfl)
        have hb6 : Below w5.heap.size w5 w6 := hw6 ▸ (Below.refl _ _).alloc (Nat.le_refl _) _
        have hs6 : w6.heap.size = w5.heap.size + 1 := by rw [← hw6]; simp
        rw [hw6]
        clear hw6
        obtain ⟨x0, x1, x2, x3, x4, x5, x6, x7, x8, x9, x10, x11, x12, x13⟩ := Blk.cells14 hX6
        have HX6 := Lib.hid hX6
        have hP6 := (own_PrL (own_less HO5.out (Nat.zero_le _))).below hb6 (Nat.le_refl _)
        have hA7 := one_at w6 x B5 d5 hP6
        unfold snCells at hA7
        go_wp2_with fail
        obtain ⟨w7, hw7⟩ : ∃ w7, w6.alloc (.cells #[.int .i64 x.kind, .int .i64 x.time, .bool x.ok, .int .i64 x.p0, .int .i64 x.p1, .int .i64 x.p2, .int .i64 x.l0, .int .i64 x.l1, .int .i64 x.l2, .slice B5 x.prns.length d5, .int .i64 x.prn, .int .i64 x.lag, .int .i64 x.power, .string x.text] 28) = w7 := ⟨_, rfl⟩
        rw [hw7, hs6] at hA7
        have hb7 : Below w6.heap.size w6 w7 := hw7 ▸ (Below.refl _ _).alloc (Nat.le_refl _) _
        rw [hw7]
        clear hw7 x0 x1 x2 x3 x4 x5 x6 x7 x8 x9 x10 x11 x12 x13 hX6
        have hb57 : Below w5.heap.size w5 w7 := hb6.trans (hb7.mono (by omega))
        have hb17 : Below wr1.heap.size wr1 w7 := HB5.out.trans (hb57.mono HB5.out.size)
        have hB7 : Below w.heap.size w w7 := HB1.out.trans (hb17.mono HB1.out.size)
        have hL7 := HLS.out [(x, .slice B5 x.prns.length d5)] (some ⟨w5.heap.size + 1, 0, none⟩) 1 1 w7 (HE.out.below hB7 HE.out.1) rfl (by decide) (fun e he => by
          obtain rfl : e = (x, .slice B5 x.prns.length d5) := by simpa using he
          have h1 := hxs.1
          have h2 := hxs.2
          exact ⟨by show x.prns.length ≤ _; omega, by show x.text.size ≤ _; omega⟩) hA7
        rw [show List.map (fun e : Plain.Sn × Value => e.1) [(x, .slice B5 x.prns.length d5)] = [x] from rfl, lines_one HX.out] at hL7
        have HL7 := Lib.hid hL7
        have HX7 := Lib.hid (HX6.out.below hb7 (by omega))
        have HB57 := Lib.hid hb57
        have hs7 := hb7.size
        clear hL7 hA7 hb57 hb17 hB7 hb6 hb7 hP6 HX6
        refine HL7.out.mono ?_
        rintro en w8 ⟨rfl, hb8⟩
        have HX8 := Lib.hid (HX7.out.below hb8 (by omega))
        have HB58 := Lib.hid (HB57.out.trans (hb8.mono HB57.out.size))
        clear hb8 HL7 HX7 HB57
        obtain ⟨x0, x1, x2, x3, x4, x5, x6, x7, x8, x9, x10, x11, x12, x13⟩ := Blk.cells14 HX8.out
        have hz1 : (Plain.joinN ps1).size ≤ 4860 := HSZ1.out.1
        have hz3 := lineB_size HX.out
        have HS8 := Lib.hid (HSN1.out.below (HB5.out.trans (HB58.out.mono HB5.out.size)))
        obtain ⟨j0, hj, hv0, hv1, hv2⟩ := info_parts infoSn
        have hel : es.length ≤ 100 := by
          have h1 := (Plain.good_len (Plain.numF 0 ps1)).1
          rw [Plain.numF_len] at h1
          have h2 := congrArg List.length HES1.out.1
          rw [List.length_map] at h2
          omega
        simp only
        go_wp2_with (at_builtin; refine wpList_append_own_at _ rfl _ _ 23 rfl w.heap.size 28 j0 (.agg #[.int .i64 0, .int .i64 0, .bool false, .int .i64 0, .int .i64 0, .int .i64 0, .int .i64 0, .int .i64 0, .int .i64 0, .slice none 0 0, .int .i64 0, .int .i64 0, .int .i64 0, .string ⟨#[]⟩]) 14 136 Tryz.underlying23 hj hv0 hv1 hv2 rfl (by decide) _ _ _ rfl (HS8.out.1.alloc _) ⟨w8.heap.size, 0, none⟩ 1 1 (#[.int .i64 x.kind, .int .i64 x.time, .bool x.ok, .int .i64 x.p0, .int .i64 x.p1, .int .i64 x.p2, .int .i64 x.l0, .int .i64 x.l1, .int .i64 x.l2, .slice B5 x.prns.length d5, .int .i64 x.prn, .int .i64 x.lag, .int .i64 x.power, .string x.text] : Array Value).toList rfl rfl ?_ ?_ ?_ ?_ ?_ ?_; rotate_left 5; intro v' w10 hown10 hg10 _ _; have HOW := Lib.hid hown10; clear hown10; have HG10 := Lib.hid hg10; clear hg10)
        rotate_left 1
        · simp [Value.oneCell']
        · simp only [maxLen]; omega
        · omega
        · have h1 := HB1.out.size
          have h2 := HB5.out.size
          have h3 := HB58.out.size
          simp
          omega
        have HNX := one_step HSN1.out HES1.out.1 HES1.out.2.1 HES1.out.2.2 HSZ1.out.2.2.1 HSZ1.out.2.2.2 HB1.out HX.out HB5.out HO5.out (HB58.out.alloc HB58.out.size _) HG10.out HOW.out
        have hln : (ps1 ++ [lineB x]).length = ps1.length + 1 := by simp
        refine ⟨⟨k + 1, ps1 ++ [lineB x], by omega, by omega, by go_num, by rw [hln]; go_num, by rw [Plain.joinN_snoc], HNX⟩, ?_⟩
        simp [intOf]
        omega
    · by_cases hl1 : (k : Int) < 8
      · have hl2 : ¬ (k : Int) < n2 := by omega
        clear hlt
        obtain ⟨es, hS, hES, hG, hF, hSz, hLen, hB⟩ := hI
        have hsz : (Plain.joinN ps).size ≤ 100000 := by omega
        have hsp := split_first hF hsz
        have hxl : (Plain.goodL (Plain.numF 0 ps)).length ≤ 17 ∧ (Plain.badL (Plain.numF 0 ps)).length ≤ 17 := by
          have h1 := Plain.good_len (Plain.numF 0 ps)
          rw [Plain.numF_len] at h1
          omega
        generalize Plain.goodL (Plain.numF 0 ps) = xs at *
        generalize Plain.badL (Plain.numF 0 ps) = bd at *
        have hsp2 := split_second hG (by omega)
        have hla := Plain.linesR_all hG
        obtain ⟨A3, c3, rfl, hA3⟩ := hS.reads
        obtain ⟨A4, c4, rfl⟩ := own_formQ hS.2.1
        have hP4 := own_PrL (own_less hS.2.1 (Nat.zero_le _))
        have hel : es.length = xs.length := by rw [← hES, List.length_map]
        rw [hel]
        have HS1 := Lib.hid (fun W he => split_all (Plain.joinN ps) W he)
        have HS2 := Lib.hid (fun W he => split_all (Plain.joinN (xs.map lineB)) W he)
        rw [hsp] at HS1
        rw [hsp2] at HS2
        have hpr : ∀ e ∈ es, e.1.prns.length ≤ 9223372036854775807 ∧ e.1.text.size ≤ 1000000 := by
          intro e he
          have h1 := Plain.one_small (hG e.1 (by rw [← hES]; exact List.mem_map_of_mem he))
          exact ⟨by omega, by omega⟩
        have HL := Lib.hid (fun W he h1 => HLS.out es A3 xs.length c3 W he hel (by omega) hpr h1)
        rw [hES, hla] at HL
        have HEQ := Lib.hid (And.intro hES (And.intro hel (And.intro hxl hpr)))
        have HA3 := Lib.hid hA3
        have HP4 := Lib.hid hP4
        have HB := Lib.hid hB
        have HAW := Lib.hid (fun W he => awake_any W he)
        clear hS hES hG hF hSz hLen hB hsz hsp hsp2 hla hA3 hP4 hel hpr hxl HOF HLS HBel
        go_wp2_with fail
        refine (HS1.out wr (HE.out.below HB.out HE.out.1)).mono ?_
        rintro en w1 ⟨A5, c5, A6, c6, es5, rfl, hA5, hE5, hP6, hb⟩
        simp only at hE5 hP6
        have HA5 := Lib.hid hA5
        have HP6 := Lib.hid hP6
        have HA31 := Lib.hid (HA3.out.below hb)
        have HP41 := Lib.hid (HP4.out.below hb (Nat.le_refl _))
        have HB1 := Lib.hid (HB.out.trans (hb.mono HB.out.size))
        have HE5 := Lib.hid hE5
        clear hA5 hE5 hP6 hb HS1 HA3 HP4 HB
        simp only
        go_wp2_with fail
        refine (HL.out w1 (HE.out.below HB1.out HE.out.1) HA31.out).mono ?_
        rintro en w2 ⟨rfl, hb⟩
        have HA52 := Lib.hid (HA5.out.below hb)
        have HP62 := Lib.hid (HP6.out.below hb (Nat.le_refl _))
        have HA32 := Lib.hid (HA31.out.below hb)
        have HP42 := Lib.hid (HP41.out.below hb (Nat.le_refl _))
        have HB2 := Lib.hid (HB1.out.trans (hb.mono HB1.out.size))
        clear hb HL HA5 HP6 HA31 HP41 HB1
        simp only
        go_wp2_with fail
        refine (HS2.out w2 (HE.out.below HB2.out HE.out.1)).mono ?_
        rintro en w3 ⟨A7, c7, A8, c8, es7, rfl, hA7, hE7, hP8, hb⟩
        simp only at hE7 hP8
        have hA53 := HA52.out.below hb
        have hA33 := HA32.out.below hb
        have hP63 := HP62.out.below hb (Nat.le_refl _)
        have hP43 := HP42.out.below hb (Nat.le_refl _)
        have hl5 : es5.length = xs.length := by rw [← HE5.out, List.length_map]
        have hl7 : es7.length = xs.length := by rw [← hE7, List.length_map]
        have HX1 := Lib.hid (sameAll_any es5 es A5 A3 xs.length c5 c3 w3 hl5 HEQ.out.2.1 (by have := HEQ.out.2.2.1; omega) (fun e he => by
          have h1 : e.1 ∈ es.map (·.1) := by rw [HEQ.out.1, ← HE5.out]; exact List.mem_map_of_mem he
          obtain ⟨e', he', hq⟩ := List.mem_map.1 h1
          rw [← hq]
          exact (HEQ.out.2.2.2 e' he').1) (HE5.out.trans HEQ.out.1.symm) hA53 hA33)
        have HA73 := Lib.hid (And.intro hA7 hA33)
        have HP3 := Lib.hid (And.intro hP63 hP43)
        have HE7 := Lib.hid (And.intro hE7 hl7)
        have HB3 := Lib.hid (HB2.out.trans (hb.mono HB2.out.size))
        clear hb HS2 HA52 HP62 HA32 HP42 HB2 hA7 hE7 hP8 hA53 hA33 hP63 hP43 hl5 hl7
        simp only [List.length_nil]
        go_wp2_with fail
        refine HX1.out.mono ?_
        rintro en w4 ⟨rfl, hb⟩
        have HA74 := Lib.hid (And.intro (HA73.out.1.below hb) (HA73.out.2.below hb))
        have HX2 := Lib.hid (alike_eq bd A6 A4 bd.length c6 c4 w4 rfl (by have := HEQ.out.2.2.1; omega) (HP3.out.1.below hb (Nat.le_refl _)) (HP3.out.2.below hb (Nat.le_refl _)))
        have HB4 := Lib.hid (HB3.out.trans (hb.mono HB3.out.size))
        clear hb HX1 HA73 HP3 HB3
        go_wp2_with fail
        refine HX2.out.mono ?_
        rintro en w5 ⟨rfl, qq, rfl⟩
        have hb : Below w4.heap.size w4 (w4.drewN qq) := ⟨rfl, rfl, rfl, Nat.le_refl _, fun _ _ => rfl⟩
        have hA75 := And.intro (HA74.out.1.below hb) (HA74.out.2.below hb)
        have hB5 := HB4.out.trans (hb.mono HB4.out.size)
        clear hb HX2 HA74 HB4
        generalize w4.drewN qq = w6 at *
        have HX3 := Lib.hid (sameAll_any es7 es A7 A3 xs.length c7 c3 w6 HE7.out.2 HEQ.out.2.1 (by have := HEQ.out.2.2.1; omega) (fun e he => by
          have h1 : e.1 ∈ es.map (·.1) := by rw [HEQ.out.1, ← HE7.out.1]; exact List.mem_map_of_mem he
          obtain ⟨e', he', hq⟩ := List.mem_map.1 h1
          rw [← hq]
          exact (HEQ.out.2.2.2 e' he').1) (HE7.out.1.trans HEQ.out.1.symm) hA75.1 hA75.2)
        have HB5 := Lib.hid hB5
        clear hA75 hB5
        go_wp2_with fail
        refine HX3.out.mono ?_
        rintro en w7 ⟨rfl, hb⟩
        have HB7 := Lib.hid (HB5.out.trans (hb.mono HB5.out.size))
        clear hb HX3 HB5
        go_wp2_with fail
        refine (HAW.out w7 (HE.out.below HB7.out HE.out.1)).mono ?_
        rintro en w8 ⟨rfl, hb⟩
        have HB8 := Lib.hid (HB7.out.trans (hb.mono HB7.out.size))
        clear hb HB7
        go_wp2_with fail
        go_ret
        exact ⟨rfl, HB8.out⟩
      · clear hlt
        obtain ⟨es, hS, hES, hG, hF, hSz, hLen, hB⟩ := hI
        have hsz : (Plain.joinN ps).size ≤ 100000 := by omega
        have hsp := split_first hF hsz
        have hxl : (Plain.goodL (Plain.numF 0 ps)).length ≤ 17 ∧ (Plain.badL (Plain.numF 0 ps)).length ≤ 17 := by
          have h1 := Plain.good_len (Plain.numF 0 ps)
          rw [Plain.numF_len] at h1
          omega
        generalize Plain.goodL (Plain.numF 0 ps) = xs at *
        generalize Plain.badL (Plain.numF 0 ps) = bd at *
        have hsp2 := split_second hG (by omega)
        have hla := Plain.linesR_all hG
        obtain ⟨A3, c3, rfl, hA3⟩ := hS.reads
        obtain ⟨A4, c4, rfl⟩ := own_formQ hS.2.1
        have hP4 := own_PrL (own_less hS.2.1 (Nat.zero_le _))
        have hel : es.length = xs.length := by rw [← hES, List.length_map]
        rw [hel]
        have HS1 := Lib.hid (fun W he => split_all (Plain.joinN ps) W he)
        have HS2 := Lib.hid (fun W he => split_all (Plain.joinN (xs.map lineB)) W he)
        rw [hsp] at HS1
        rw [hsp2] at HS2
        have hpr : ∀ e ∈ es, e.1.prns.length ≤ 9223372036854775807 ∧ e.1.text.size ≤ 1000000 := by
          intro e he
          have h1 := Plain.one_small (hG e.1 (by rw [← hES]; exact List.mem_map_of_mem he))
          exact ⟨by omega, by omega⟩
        have HL := Lib.hid (fun W he h1 => HLS.out es A3 xs.length c3 W he hel (by omega) hpr h1)
        rw [hES, hla] at HL
        have HEQ := Lib.hid (And.intro hES (And.intro hel (And.intro hxl hpr)))
        have HA3 := Lib.hid hA3
        have HP4 := Lib.hid hP4
        have HB := Lib.hid hB
        have HAW := Lib.hid (fun W he => awake_any W he)
        clear hS hES hG hF hSz hLen hB hsz hsp hsp2 hla hA3 hP4 hel hpr hxl HOF HLS HBel
        go_wp2_with fail
        refine (HS1.out wr (HE.out.below HB.out HE.out.1)).mono ?_
        rintro en w1 ⟨A5, c5, A6, c6, es5, rfl, hA5, hE5, hP6, hb⟩
        simp only at hE5 hP6
        have HA5 := Lib.hid hA5
        have HP6 := Lib.hid hP6
        have HA31 := Lib.hid (HA3.out.below hb)
        have HP41 := Lib.hid (HP4.out.below hb (Nat.le_refl _))
        have HB1 := Lib.hid (HB.out.trans (hb.mono HB.out.size))
        have HE5 := Lib.hid hE5
        clear hA5 hE5 hP6 hb HS1 HA3 HP4 HB
        simp only
        go_wp2_with fail
        refine (HL.out w1 (HE.out.below HB1.out HE.out.1) HA31.out).mono ?_
        rintro en w2 ⟨rfl, hb⟩
        have HA52 := Lib.hid (HA5.out.below hb)
        have HP62 := Lib.hid (HP6.out.below hb (Nat.le_refl _))
        have HA32 := Lib.hid (HA31.out.below hb)
        have HP42 := Lib.hid (HP41.out.below hb (Nat.le_refl _))
        have HB2 := Lib.hid (HB1.out.trans (hb.mono HB1.out.size))
        clear hb HL HA5 HP6 HA31 HP41 HB1
        simp only
        go_wp2_with fail
        refine (HS2.out w2 (HE.out.below HB2.out HE.out.1)).mono ?_
        rintro en w3 ⟨A7, c7, A8, c8, es7, rfl, hA7, hE7, hP8, hb⟩
        simp only at hE7 hP8
        have hA53 := HA52.out.below hb
        have hA33 := HA32.out.below hb
        have hP63 := HP62.out.below hb (Nat.le_refl _)
        have hP43 := HP42.out.below hb (Nat.le_refl _)
        have hl5 : es5.length = xs.length := by rw [← HE5.out, List.length_map]
        have hl7 : es7.length = xs.length := by rw [← hE7, List.length_map]
        have HX1 := Lib.hid (sameAll_any es5 es A5 A3 xs.length c5 c3 w3 hl5 HEQ.out.2.1 (by have := HEQ.out.2.2.1; omega) (fun e he => by
          have h1 : e.1 ∈ es.map (·.1) := by rw [HEQ.out.1, ← HE5.out]; exact List.mem_map_of_mem he
          obtain ⟨e', he', hq⟩ := List.mem_map.1 h1
          rw [← hq]
          exact (HEQ.out.2.2.2 e' he').1) (HE5.out.trans HEQ.out.1.symm) hA53 hA33)
        have HA73 := Lib.hid (And.intro hA7 hA33)
        have HP3 := Lib.hid (And.intro hP63 hP43)
        have HE7 := Lib.hid (And.intro hE7 hl7)
        have HB3 := Lib.hid (HB2.out.trans (hb.mono HB2.out.size))
        clear hb HS2 HA52 HP62 HA32 HP42 HB2 hA7 hE7 hP8 hA53 hA33 hP63 hP43 hl5 hl7
        simp only [List.length_nil]
        go_wp2_with fail
        refine HX1.out.mono ?_
        rintro en w4 ⟨rfl, hb⟩
        have HA74 := Lib.hid (And.intro (HA73.out.1.below hb) (HA73.out.2.below hb))
        have HX2 := Lib.hid (alike_eq bd A6 A4 bd.length c6 c4 w4 rfl (by have := HEQ.out.2.2.1; omega) (HP3.out.1.below hb (Nat.le_refl _)) (HP3.out.2.below hb (Nat.le_refl _)))
        have HB4 := Lib.hid (HB3.out.trans (hb.mono HB3.out.size))
        clear hb HX1 HA73 HP3 HB3
        go_wp2_with fail
        refine HX2.out.mono ?_
        rintro en w5 ⟨rfl, qq, rfl⟩
        have hb : Below w4.heap.size w4 (w4.drewN qq) := ⟨rfl, rfl, rfl, Nat.le_refl _, fun _ _ => rfl⟩
        have hA75 := And.intro (HA74.out.1.below hb) (HA74.out.2.below hb)
        have hB5 := HB4.out.trans (hb.mono HB4.out.size)
        clear hb HX2 HA74 HB4
        generalize w4.drewN qq = w6 at *
        have HX3 := Lib.hid (sameAll_any es7 es A7 A3 xs.length c7 c3 w6 HE7.out.2 HEQ.out.2.1 (by have := HEQ.out.2.2.1; omega) (fun e he => by
          have h1 : e.1 ∈ es.map (·.1) := by rw [HEQ.out.1, ← HE7.out.1]; exact List.mem_map_of_mem he
          obtain ⟨e', he', hq⟩ := List.mem_map.1 h1
          rw [← hq]
          exact (HEQ.out.2.2.2 e' he').1) (HE7.out.1.trans HEQ.out.1.symm) hA75.1 hA75.2)
        have HB5 := Lib.hid hB5
        clear hA75 hB5
        go_wp2_with fail
        refine HX3.out.mono ?_
        rintro en w7 ⟨rfl, hb⟩
        have HB7 := Lib.hid (HB5.out.trans (hb.mono HB5.out.size))
        clear hb HX3 HB5
        go_wp2_with fail
        refine (HAW.out w7 (HE.out.below HB7.out HE.out.1)).mono ?_
        rintro en w8 ⟨rfl, hb⟩
        have HB8 := Lib.hid (HB7.out.trans (hb.mono HB7.out.size))
        clear hb HB7
        go_wp2_with fail
        go_ret
        exact ⟨rfl, HB8.out⟩
end Go.Proofs.YteeekdffbcbamaaGreatDoor
