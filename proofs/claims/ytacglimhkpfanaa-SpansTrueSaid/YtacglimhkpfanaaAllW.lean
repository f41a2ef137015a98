/-
  WALK: All of package spans.
-/
import Derived.Test.YtacglimhkpfanaaSort
namespace Go.Proofs.Ytacglimhkpfanaa
open Go.RowKit

theorem info44 : (Try.prog.info? 44).map (fun i => (i.zero, i.size, i.bytes)) = some (some (.agg #[.int .i64 0, .int .i64 0, .int .i64 0]), 3, 24) := by kernel_rfl
theorem cE_ok {l rx : Int} {c : Plain.Tri} (h : Plain.cE l rx c = 0) : 1 ≤ c.1 ∧ c.1 ≤ 2048 := by
  unfold Plain.cE Plain.lenE at h
  split at h
  · rename_i hr
    simp [Plain.rngB, Plain.chB] at hr
    omega
  · omega
theorem errs_ok {l rx : Int} {cs : List Plain.Tri} (h : Plain.errs l rx cs = 0) : ∀ c ∈ cs, 1 ≤ c.1 ∧ c.1 ≤ 2048 := by
  induction cs with
  | nil => intro c hc; simp at hc
  | cons d ds ih =>
    unfold Plain.errs at h
    by_cases hd : Plain.cE l rx d = 0
    · rw [if_pos hd] at h
      intro c hc
      rcases List.mem_cons.1 hc with rfl | hc
      · exact cE_ok hd
      · exact ih h c hc
    · rw [if_neg hd] at h
      exact absurd h hd
theorem own_reads3 {w : World} {base n : Nat} {v : Value} {L : List Plain.Tri} (h : w.ownsRow base 44 3 v n (flat3 L)) : L.length = n ∧ ((v = .slice none 0 0 ∧ n = 0) ∨
    ∃ g cap, v = .slice (some ⟨g, 0, none⟩) n cap ∧ base ≤ g ∧ g < w.heap.size ∧ ∀ j u, (flat3 L)[j]? = some u → w.cell? ⟨g, j, none⟩ = some u ∧ w.frozen? ⟨g, j, none⟩ = false) := by
  have hl : L.length = n := by have := h.1; rw [flat3_length] at this; omega
  refine ⟨hl, ?_⟩
  rcases h.2 with ⟨rfl, h0⟩ | ⟨g, cap, cur, rfl, hge, hh, hnc, hcm, hcs, htk⟩
  · exact Or.inl ⟨rfl, h0⟩
  · refine Or.inr ⟨g, cap, rfl, hge, ?_, fun j u hu => ?_⟩
    · rcases Nat.lt_or_ge g w.heap.size with hlt | hge'
      · exact hlt
      · rw [Array.getElem?_eq_none hge'] at hh
        cases hh
    · have hj : j < n * 3 := by
        have := (List.getElem?_eq_some_iff.1 hu).1
        rw [flat3_length] at this
        omega
      have e : cur[j]? = some u := by
        rw [← htk, List.getElem?_take, if_pos hj] at hu
        simpa using hu
      have hjc : j < cur.size := by rw [hcs]; have := Nat.mul_le_mul_right 3 hnc; omega
      constructor
      · simp [World.cell?, hh, e]
      · simp [World.frozen?, hh]

theorem own_below {w w' : World} {base n size : Nat} {e : TypeId} {v : Value} {xs : List Value} (h : w.ownsRow base e size v n xs) (hb : Below w.heap.size w w') : w'.ownsRow base e size v n xs := by
  refine ⟨h.1, ?_⟩
  rcases h.2 with h0 | ⟨g, cap, cur, hv, hge, hh, hr⟩
  · exact Or.inl h0
  · refine Or.inr ⟨g, cap, cur, hv, hge, ?_, hr⟩
    rw [hb.block g (by
      rcases Nat.lt_or_ge g w.heap.size with hlt | hge'
      · exact hlt
      · rw [Array.getElem?_eq_none hge'] at hh
        cases hh)]
    exact hh
theorem own_block {w : World} {base size n : Nat} {e : TypeId} {v : Value} {xs : List Value} (h : w.ownsRow base e size v n xs) : ∀ r, v.ownBlock = some r → base ≤ r := by
  intro r hr
  rcases h.2 with ⟨rfl, _⟩ | ⟨g, cap, cur, rfl, hge, _⟩
  · cases hr
  · cases hr
    exact hge
theorem heap_new (w : World) (o : Obj) : (w.alloc o).heap[w.heap.size]? = some o := by show (w.heap.push o)[w.heap.size]? = some o; simp
theorem new3 (w : World) (a b c : Value) (t : TypeId) : ∀ j u, [a, b, c][j]? = some u → (w.alloc (.cells #[a, b, c] t)).cell? ((⟨w.heap.size, 0, none⟩ : Addr).add j) = some u := by
  intro j u hu
  rw [add0]
  unfold World.cell?
  rw [heap_new]
  simpa using hu

set_option maxHeartbeats 4000000 in
theorem all19_loop (l over rx : Int) (A : Option Addr) (k c : Nat) (cs : List Plain.Tri) (w : World) (hl : cs.length = k) (hk : k ≤ 16) (hr : Reads3 w w.heap.size A cs) (b : Int) (hbv : Plain.bndV l over = b) (hbe : Plain.bndE l over = 0)
    (V : List Plain.Tri) (E : Int) (hV : Plain.allV l over rx cs = V) (hE : Plain.allE l over rx cs = E) :
    Calls Try.prog 19 #[.int .i64 l, .int .i64 over, .int .i64 rx, .slice A k c] w fun e w' => ∃ A' n c', e = .returned (.tuple #[.slice A' n c', .int .i64 E]) ∧ V.length = n ∧ Reads3 w' w'.heap.size A' V ∧ Below w.heap.size w w' := by
  have HB := Lib.hid (fun W => bound12_is l over b 0 hbv hbe W)
  have HLen := Lib.hid (fun (x : Plain.Tri) (v e : Int) (hv : Plain.cV l rx x = v) (he : Plain.cE l rx x = e) W => length_is l rx x.1 x.2.1 x.2.2 v e hv he W)
  have HVe := Lib.hid (show ∀ e, Plain.errs l rx cs = e → e ≠ 0 → V = [] ∧ E = e from fun e he hne => by
    have h1 : Plain.allE l over rx cs = e := by unfold Plain.allE; rw [if_pos hbe, if_pos (by omega), if_neg (by rw [he]; exact hne), he]
    exact ⟨by rw [← hV]; unfold Plain.allV; rw [if_neg (by rw [h1]; exact hne)], by rw [← hE, h1]⟩)
  have HVd := Lib.hid (show Plain.errs l rx cs = 0 → Plain.dup cs = true → V = [] ∧ E = 8 from fun he hd => by
    have h1 : Plain.allE l over rx cs = 8 := by unfold Plain.allE; rw [if_pos hbe, if_pos (by omega), if_pos he, if_pos hd]
    exact ⟨by rw [← hV]; unfold Plain.allV; rw [if_neg (by rw [h1]; decide)], by rw [← hE, h1]⟩)
  have HVs := Lib.hid (show Plain.errs l rx cs = 0 → Plain.dup cs = false → V = Plain.srt (cs.map (Plain.spn l rx b)) ∧ E = 0 from fun he hd => by
    have h1 : Plain.allE l over rx cs = 0 := by unfold Plain.allE; rw [if_pos hbe, if_pos (by omega), if_pos he, if_neg (by rw [hd]; decide)]
    exact ⟨by rw [← hV]; unfold Plain.allV; rw [if_pos h1, hbv], by rw [← hE, h1]⟩)
  clear hV hE hbe hbv
  have HL := Lib.hid hl; clear hl
  have HR := Lib.hid hr; clear hr
  obtain ⟨i0, hi, hz0, hz1, hz2⟩ := info_parts info44
  go_enter Try.func19, Try.ntmps19
  go_wp2_with fail
  refine (HB.out _).mono ?_
  rintro e w1 ⟨rfl, rfl⟩
  go_wp2_with fail
  go_loopw [12, 31] (fun v i wr => ∃ j : Nat, j ≤ k ∧ i = .int .i64 j ∧ Hid (Plain.errs l rx (cs.take j) = 0) ∧ Hid (wr.ownsRow w.heap.size 44 3 v j (flat3 ((cs.take j).map (Plain.spn l rx b)))) ∧ Below w.heap.size w wr) (fun _ i _ => k - (intOf i).toNat)
  case atStart => exact ⟨0, Nat.zero_le _, rfl, Lib.hid rfl, Lib.hid ⟨by simp [flat3], Or.inl ⟨rfl, rfl⟩⟩, Below.refl _ _⟩
  case round =>
    obtain ⟨j, hj, rfl, hE0, hO, hB⟩ := hrel
    by_cases hlt : j < k
    · have hjl : j < cs.length := by rw [HL.out]; exact hlt
      obtain ⟨ad, hA, hab, h0, h1, h2⟩ := (HR.out.below hB (Nat.le_refl _)) j hjl
      subst hA
      have htk := List.take_succ_eq_append_getElem hjl
      have hes := fun h => Plain.errs_take_succ l rx cs j hjl hE0.out h
      have hen := fun h => Plain.errs_take_ne l rx cs j hjl hE0.out h
      have HTK := Lib.hid (show (cs.take (j + 1)).map (Plain.spn l rx b) = (cs.take j).map (Plain.spn l rx b) ++ [Plain.spn l rx b cs[j]] by rw [htk, List.map_append]; rfl)
      clear htk
      obtain ⟨x, hx⟩ : ∃ x, cs[j] = x := ⟨_, rfl⟩
      rw [hx] at h0 h1 h2 hes hen HTK
      clear hx
      obtain ⟨v, hv⟩ : ∃ v, Plain.cV l rx x = v := ⟨_, rfl⟩
      obtain ⟨e0, he0⟩ : ∃ v, Plain.cE l rx x = v := ⟨_, rfl⟩
      have HC := Lib.hid (HLen.out x v e0 hv he0)
      rw [he0] at hes hen
      have HSP := Lib.hid (show Plain.spn l rx b x = (x.1, v, b) by unfold Plain.spn; rw [hv])
      clear hv he0
      have HES := Lib.hid hes; clear hes
      have HEN := Lib.hid hen; clear hen
      have HBr := Lib.hid hB; clear hB
      have hsz := HBr.out.size
      go_wp2_with fail
      refine (HC.out _).mono ?_
      rintro e w2 ⟨rfl, hb2⟩
      have hc0 := hb2.cell (p := ⟨wr.heap.size, 0, none⟩) (by simp)
      have hs2 := hb2.size
      have HB2 := Lib.hid hb2; clear hb2
      by_cases hez : e0 = 0
      · subst hez
        have HO2 := Lib.hid (own_below (hO.out.alloc (.cells #[.int .i64 x.1, .int .i64 x.2.1, .int .i64 x.2.2] 23)) HB2.out)
        go_wp2_with (at_builtin; refine wpList_append_own _ rfl _ _ 35 rfl w.heap.size 44 i0 (.agg #[.int .i64 0, .int .i64 0, .int .i64 0]) 3 24 Try.underlying35 hi hz0 hz1 hz2 rfl (by decide) _ _ _ rfl (HO2.out.alloc _) ⟨w2.heap.size, 0, none⟩ 1 1 [.int .i64 x.1, .int .i64 v, .int .i64 b] rfl rfl ?c1 ?c2 ?c3 ?c4 ?c5 ?_; rotate_left 5; intro v' w4 hown4 hg4 _)
        case c1 => exact new3 _ _ _ _ _
        case c2 => intro u hu; simp at hu; rcases hu with rfl | rfl | rfl <;> rfl
        case c3 => unfold maxLen; omega
        case c4 => omega
        case c5 => simp at hs2 ⊢; omega
        go_roundw
        case rel =>
          refine ⟨j + 1, by omega, by go_num, Lib.hid (HES.out (by first | rfl | trivial)), Lib.hid ?_, ?_⟩
          · rw [HTK.out, flat3_append, HSP.out]
            exact hown4
          · have k2 := (HBr.out.alloc hsz (.cells #[.int .i64 x.1, .int .i64 x.2.1, .int .i64 x.2.2] 23)).trans (HB2.out.mono (by simp; omega))
            exact (k2.alloc k2.size _).grown hg4 (by simp at hs2 ⊢; omega) (own_block HO2.out)
        case measure => simp [intOf]; omega
      · have hq : (e0 != 0) = true := by simpa using hez
        obtain ⟨hV, hE⟩ := HVe.out e0 (HEN.out hez) hez
        subst hV hE
        clear hez
        go_wp2_with fail
        go_ret2
        exact ⟨none, 0, 0, rfl, rfl, fun j hj => absurd hj (by simp), (HBr.out.alloc hsz _).trans (HB2.out.mono (by simp; omega))⟩
    · obtain rfl : j = k := by omega
      have htl : cs.take j = cs := List.take_of_length_le (by rw [HL.out]; exact Nat.le_refl _)
      have hE1 := hE0.out
      have hO1 := hO.out
      rw [htl] at hE1 hO1
      clear htl hE0 hO hlt
      have hv := errs_ok hE1
      have hR1 := HR.out.below hB (Nat.le_refl _)
      obtain ⟨r, hd⟩ : ∃ r, Plain.dup cs = r := ⟨_, rfl⟩
      have HDb := Lib.hid (double33_any A j c cs wr HL.out (by omega) (hR1.more hB.size) hv r hd)
      have HBr := Lib.hid hB; clear hB
      cases r
      · obtain ⟨hV, hE⟩ := HVs.out hE1 hd
        rw [Plain.dup_false] at hd
        have hvs : ∀ x ∈ cs.map (Plain.spn l rx b), 1 ≤ x.1 ∧ x.1 ≤ 2048 := by
          intro x hx
          obtain ⟨y, hy, rfl⟩ := List.mem_map.1 hx
          exact hv y hy
        have hnd : ((cs.map (Plain.spn l rx b)).map (·.1)).Nodup := by rw [Plain.spn_map_fst]; exact hd
        have HV := Lib.hid hV; clear hV
        have HVS := Lib.hid hvs; clear hvs
        have HND := Lib.hid hnd; clear hnd
        clear hd hv hE1 hR1
        subst hE
        obtain ⟨hlen, hcase⟩ := own_reads3 hO1
        have HO1 := Lib.hid hO1; clear hO1
        have HLN := Lib.hid hlen; clear hlen
        rcases hcase with ⟨rfl, rfl⟩ | ⟨g, cap, rfl, hge, hg, hcells⟩
        · go_wp2_with fail
          refine HDb.out.mono ?_
          rintro e w5 ⟨rfl, hb5⟩
          have HB5 := Lib.hid hb5; clear hb5
          go_wp2_with fail
          refine (sort34_none _).mono ?_
          rintro e w6 ⟨rfl, rfl⟩
          go_wp2_with fail
          go_ret2
          refine ⟨none, 0, 0, rfl, ?_, ?_, HBr.out.trans (HB5.out.mono HBr.out.size)⟩
          · rw [HV.out, Plain.srt_length]; exact HLN.out
          · intro j hj
            rw [HV.out, Plain.srt_length, HLN.out] at hj
            omega
        · have HG := Lib.hid hcells; clear hcells
          go_wp2_with fail
          refine HDb.out.mono ?_
          rintro e w5 ⟨rfl, hb5⟩
          have HS := Lib.hid (sort34_some g cap j _ w5 w.heap.size HLN.out hge (Nat.lt_of_lt_of_le hg hb5.size) (fun i u hu => by
            obtain ⟨h1, h2⟩ := HG.out i u hu
            exact ⟨(hb5.cell (p := ⟨g, i, none⟩) hg).trans h1, (hb5.frozen (p := ⟨g, i, none⟩) hg).trans h2⟩) HVS.out HND.out (by omega))
          have HB5 := Lib.hid hb5; clear hb5
          go_wp2_with fail
          refine HS.out.mono ?_
          rintro e w6 ⟨rfl, hr6, hb6⟩
          have HR6 := Lib.hid hr6; clear hr6
          have HB6 := Lib.hid hb6; clear hb6
          go_wp2_with fail
          go_ret2
          refine ⟨some ⟨g, 0, none⟩, j, cap, rfl, ?_, ?_, (HBr.out.trans (HB5.out.mono HBr.out.size)).trans HB6.out⟩
          · rw [HV.out, Plain.srt_length]; exact HLN.out
          · rw [HV.out]; exact HR6.out
      · obtain ⟨hV, hE⟩ := HVd.out hE1 hd
        subst hV hE
        clear hd hv hE1 hR1 hO1
        go_wp2_with fail
        refine HDb.out.mono ?_
        rintro e w5 ⟨rfl, hb5⟩
        have HB5 := Lib.hid hb5; clear hb5
        go_wp2_with fail
        go_ret2
        exact ⟨none, 0, 0, rfl, rfl, fun j hj => absurd hj (by simp), HBr.out.trans (HB5.out.mono HBr.out.size)⟩
end Go.Proofs.Ytacglimhkpfanaa
