/-
  PLAIN: a sentence is read from its line.
-/
import Derived.Test.YteeekdffbcbamaaGreatDoorG6
import Derived.Lib.ItoaMem
import Derived.Test.YteeekdffbcbamaaGreatDoorSameL
import Derived.Test.YteeekdffbcbamaaGreatDoorLineZ
import Derived.Test.YteeekdffbcbamaaGreatDoorG5
namespace Go.Proofs.YteeekdffbcbamaaGreatDoor
namespace Plain

theorem decV_snoc (l : List UInt8) (c : UInt8) (a : Nat) : decV a (l ++ [c]) = decV a l * 10 + (c.toNat - 48) := by simp [decV, List.foldl_append]
theorem dig_nat {u : Nat} (h : u < 10) : (UInt8.ofNat (48 + u)).toNat = 48 + u := by rw [UInt8.toNat_ofNat']; omega
theorem dig_ok {u : Nat} (h : u < 10) : digB (UInt8.ofNat (48 + u)) = true := by
  unfold digB
  rw [dig_nat h]
  simp
  omega
theorem dec_all (u : Nat) : (Lib.decDigits u).all digB = true := by
  induction u using Nat.strongRecOn with
  | _ u ih =>
    rw [Lib.decDigits]
    by_cases h : u < 10
    · rw [dif_pos h]
      simp only [List.all_cons, List.all_nil, Bool.and_true]
      exact dig_ok h
    · rw [dif_neg h, List.all_append, ih (u / 10) (by omega)]
      simp only [List.all_cons, List.all_nil, Bool.and_true, Bool.true_and]
      exact dig_ok (by omega)
theorem dec_val (u : Nat) : decV 0 (Lib.decDigits u) = u := by
  induction u using Nat.strongRecOn with
  | _ u ih =>
    rw [Lib.decDigits]
    by_cases h : u < 10
    · rw [dif_pos h]
      show 0 * 10 + ((UInt8.ofNat (48 + u)).toNat - 48) = u
      rw [dig_nat h]; omega
    · rw [dif_neg h, decV_snoc, ih (u / 10) (by omega), dig_nat (by omega)]
      omega
theorem dec_ne (u : Nat) : Lib.decDigits u ≠ [] := by
  rw [Lib.decDigits]
  by_cases h : u < 10
  · rw [dif_pos h]; simp
  · rw [dif_neg h]; simp
theorem dec_head (u : Nat) (h0 : u ≠ 0) : (Lib.decDigits u).head? ≠ some 48 := by
  induction u using Nat.strongRecOn with
  | _ u ih =>
    rw [Lib.decDigits]
    by_cases h : u < 10
    · rw [dif_pos h]
      intro e
      have e2 : UInt8.ofNat (48 + u) = 48 := by simpa using e
      have e3 := congrArg UInt8.toNat e2
      rw [dig_nat h] at e3
      have e4 : (48 : UInt8).toNat = 48 := rfl
      omega
    · rw [dif_neg h, List.head?_append]
      have h1 := ih (u / 10) (by omega) (by omega)
      cases hd : (Lib.decDigits (u / 10)).head? with
      | none => exact absurd (List.head?_eq_none_iff.1 hd) (dec_ne _)
      | some c => rw [hd] at h1; simpa using h1
theorem dec_head_neg (u : Nat) : (Lib.decDigits u).head? ≠ some 45 := by
  have h := dec_all u
  cases hl : Lib.decDigits u with
  | nil => simp
  | cons c r =>
    rw [hl] at h
    simp only [List.all_cons, Bool.and_eq_true] at h
    intro e
    obtain rfl : c = 45 := by simpa using e
    exact absurd h.1 (by decide)
theorem nDigits_le : ∀ (k u : Nat), u < 10 ^ (k + 1) → Lib.nDigits u ≤ k + 1
  | 0, u, h => by rw [Lib.nDigits_small (by simpa using h)]; exact Nat.le_refl _
  | k + 1, u, h => by
    by_cases h1 : u < 10
    · rw [Lib.nDigits_small h1]; omega
    · rw [Lib.nDigits_big h1]
      have := nDigits_le k (u / 10) (by rw [Nat.pow_succ] at h; omega)
      omega
theorem dec_len {u : Nat} (k : Nat) (h : u < 10 ^ (k + 1)) : (Lib.decDigits u).length ≤ k + 1 := by rw [Lib.decDigits_length]; exact nDigits_le k u h
theorem itoa_cases (n : Int) : (n < 0 ∧ Lib.itoa n = 45 :: Lib.decDigits n.natAbs) ∨ (0 ≤ n ∧ Lib.itoa n = Lib.decDigits n.toNat) := by
  unfold Lib.itoa
  by_cases h : n < 0
  · exact Or.inl ⟨h, if_pos h⟩
  · exact Or.inr ⟨by omega, if_neg h⟩
theorem itoa_neg {n : Int} : negB (Lib.itoa n) = decide (n < 0) := by
  unfold negB
  rcases itoa_cases n with ⟨h, e⟩ | ⟨h, e⟩
  · rw [e]; simp [h]
  · rw [e]
    have := dec_head_neg n.toNat
    rw [beq_eq_false_iff_ne.2 this]
    simp; omega
theorem itoa_body {n : Int} : body (Lib.itoa n) = Lib.decDigits n.natAbs := by
  unfold body
  rw [itoa_neg]
  rcases itoa_cases n with ⟨h, e⟩ | ⟨h, e⟩
  · rw [e]; simp [h]
  · rw [e, if_neg (by simp; omega), show n.toNat = n.natAbs by omega]
theorem itoa_val (n : Int) : numV (Lib.itoa n) = n := by
  unfold numV
  rw [itoa_neg, itoa_body, dec_val]
  by_cases h : n < 0
  · rw [if_pos (by simpa using h)]; omega
  · rw [if_neg (by simpa using h)]; omega
theorem itoa_good {n : Int} (h0 : -1000000000000000000 ≤ n) (h1 : n ≤ 1000000000000000000) : badB (Lib.itoa n) = false := by
  unfold badB
  rw [itoa_body, dec_all]
  have hl := dec_len (u := n.natAbs) 18 (by omega)
  have h2 : (Lib.decDigits n.natAbs).isEmpty = false := by
    cases he : Lib.decDigits n.natAbs with
    | nil => exact absurd he (dec_ne _)
    | cons c r => rfl
  rw [h2]
  have h3 : ((Lib.decDigits n.natAbs).head? == some 48 && Lib.itoa n != [48]) = false := by
    by_cases hz : n = 0
    · subst hz
      have e0 : Lib.itoa 0 = [48] := by unfold Lib.itoa; rw [if_neg (by decide)]; exact Lib.decDigits_one (i := 0) (by omega)
      rw [e0]
      simp
    · rw [beq_eq_false_iff_ne.2 (dec_head n.natAbs (by omega))]; rfl
  rw [h3]
  simp
  omega
theorem itoa_bytes (n : Int) : ∀ c ∈ Lib.itoa n, c ≠ 44 ∧ c ≠ 42 := by
  have hd : ∀ u : Nat, ∀ c ∈ Lib.decDigits u, c ≠ 44 ∧ c ≠ 42 := by
    intro u c hc
    have h := List.all_eq_true.1 (dec_all u) c hc
    constructor <;> (intro e; subst e; exact absurd h (by decide))
  intro c hc
  rcases itoa_cases n with ⟨h, e⟩ | ⟨h, e⟩
  · rw [e] at hc
    rcases List.mem_cons.1 hc with rfl | hc
    · decide
    · exact hd _ c hc
  · rw [e] at hc
    exact hd _ c hc

theorem join_cc (x y : List UInt8) (r : List (List UInt8)) : Lib.join (x :: y :: r) [44] = x ++ 44 :: Lib.join (y :: r) [44] := by
  rw [Lib.join_cons, Lib.join_cons]
  simp [Lib.joinTail]
theorem upto_all {l : List UInt8} {c : UInt8} (h : c ∉ l) : upto l c = l.length := by
  induction l with
  | nil => rfl
  | cons x xs ih =>
    rw [upto_cons, if_neg (fun e => h (by rw [e]; exact List.mem_cons_self ..)), ih (fun hm => h (List.mem_cons_of_mem _ hm))]
    rfl
theorem upto_app {f : List UInt8} {c : UInt8} (h : c ∉ f) (t : List UInt8) : upto (f ++ c :: t) c = f.length := by
  induction f with
  | nil => rw [List.nil_append, upto_cons, if_pos rfl]; rfl
  | cons x xs ih =>
    rw [List.cons_append, upto_cons, if_neg (fun e => h (by rw [e]; exact List.mem_cons_self ..)), ih (fun hm => h (List.mem_cons_of_mem _ hm))]
    rfl
/-- These fields are left to be read. -/
def At (s : ByteArray) (e : Nat) (G : List (List UInt8)) (st : St) : Prop :=
  st.er = 0 ∧ st.ea = 0 ∧ (G = [] → st.more = false) ∧ (G ≠ [] → st.more = true ∧ st.pos ≤ e ∧ (s.data.toList.drop st.pos).take (e - st.pos) = Lib.join G [44])
theorem At.fld {s : ByteArray} {e : Nat} {f : List UInt8} {r : List (List UInt8)} {st : St} (h : At s e (f :: r) st) (he : e ≤ s.size) (hc : 44 ∉ f) :
    (fldF s e st).data.toList = f ∧ At s e r ⟨st.pos + fldN s st.pos e + 1, decide (st.pos + fldN s st.pos e < e), 0, 0⟩ := by
  obtain ⟨h1, h2, -, h4⟩ := h
  obtain ⟨h5, h6, h7⟩ := h4 (by simp)
  have hlen : (Lib.join (f :: r) [44]).length = e - st.pos := by
    rw [← h7, List.length_take, List.length_drop, len_size]; omega
  have hn : fldN s st.pos e = f.length := by
    unfold fldN
    rw [h7]
    cases r with
    | nil => rw [Lib.join_one]; exact upto_all hc
    | cons g r => rw [join_cc]; exact upto_app hc _
  have hle : f.length ≤ e - st.pos := by
    rw [← hlen, Lib.join_cons, List.length_append]; omega
  refine ⟨?_, rfl, rfl, ?_, ?_⟩
  · unfold fldF
    rw [extract_list, hn, Nat.add_sub_cancel_left]
    have : (s.data.toList.drop st.pos).take f.length = ((s.data.toList.drop st.pos).take (e - st.pos)).take f.length := by rw [List.take_take, Nat.min_eq_left hle]
    rw [this, h7, Lib.join_cons, List.take_left]
  · rintro rfl
    rw [Lib.join_one] at hlen
    rw [hn]
    simp
    omega
  · intro hr
    obtain ⟨g, r, rfl⟩ := List.exists_cons_of_ne_nil hr
    rw [join_cc, List.length_append, List.length_cons] at hlen
    rw [hn]
    refine ⟨by simp; omega, by show st.pos + f.length + 1 ≤ e; omega, ?_⟩
    show (s.data.toList.drop (st.pos + f.length + 1)).take (e - (st.pos + f.length + 1)) = _
    have e1 : (s.data.toList.drop (st.pos + f.length + 1)).take (e - (st.pos + f.length + 1)) = ((s.data.toList.drop st.pos).take (e - st.pos)).drop (f.length + 1) := by
      rw [List.drop_take, List.drop_drop, show st.pos + f.length + 1 = st.pos + (f.length + 1) by omega, show e - (st.pos + (f.length + 1)) = e - st.pos - (f.length + 1) by omega]
    rw [e1, h7, join_cc, List.drop_append, List.drop_of_length_le (by omega), List.nil_append, show f.length + 1 - f.length = 1 by omega]
    rfl
theorem At.num {s : ByteArray} {e : Nat} {n lo hi wr : Int} {r : List (List UInt8)} {st : St} (h : At s e (Lib.itoa n :: r) st) (he : e ≤ s.size) (h0 : -1000000000000000000 ≤ n) (h1 : n ≤ 1000000000000000000) (hlo : lo ≤ n) (hhi : n ≤ hi) :
    At s e r (numSt s e st lo hi wr) ∧ numO s e st = n := by
  obtain ⟨hf, ha⟩ := h.fld he (fun hm => (itoa_bytes n 44 hm).1 rfl)
  have hO : numO s e st = n := by unfold numO; rw [hf, itoa_val]
  have hR : numR s e st lo hi wr = 0 := by
    unfold numR numE
    rw [hf, itoa_good h0 h1, itoa_val, if_neg (by decide), if_neg (by omega), if_neg (by omega)]
  refine ⟨?_, hO⟩
  unfold numSt
  rw [if_neg (by rw [h.1]; decide), if_pos (h.2.2.2 (by simp)).1, hR, if_pos rfl, h.2.1]
  exact ha
theorem At.txt {s : ByteArray} {e : Nat} {f : List UInt8} {r : List (List UInt8)} {st : St} (h : At s e (f :: r) st) (he : e ≤ s.size) (hc : 44 ∉ f) :
    At s e r (fldSt s e st) ∧ (fldS s e st).data.toList = f := by
  obtain ⟨hf, ha⟩ := h.fld he hc
  have hm := (h.2.2.2 (by simp)).1
  have h0 : ¬ st.er ≠ 0 := by rw [h.1]; decide
  unfold fldSt fldS
  rw [if_neg h0, if_neg h0, if_pos hm, if_pos hm, h.2.1]
  exact ⟨ha, hf⟩
theorem At.prns {s : ByteArray} {e : Nat} (he : e ≤ s.size) : ∀ {l : List Int} {last : Int} {st : St}, At s e (l.map Lib.itoa) st → prnsE last l = 0 → At s e [] (prnSt s e l.length last st) ∧ prnL s e l.length last st = l
  | [], _, _, h, _ => ⟨h, rfl⟩
  | p :: l, last, st, h, hp => by
    have hr := prnsE_range hp p (List.mem_cons_self ..)
    have h' : At s e (Lib.itoa p :: l.map Lib.itoa) st := h
    obtain ⟨ha, hO⟩ := h'.num (lo := 1) (hi := 63) (wr := 2) he (by omega) (by omega) hr.1 hr.2
    unfold prnsE at hp
    by_cases h1 : inR p 1 63 = false
    · rw [if_pos h1] at hp; cases hp
    · rw [if_neg h1] at hp
      by_cases h2 : p ≤ last
      · rw [if_pos h2] at hp; cases hp
      · rw [if_neg h2] at hp
        have h1 : prnSt1 s e last st = numSt s e st 1 63 2 := by unfold prnSt1; rw [hO, if_neg h2]
        have h0 : ¬ st.er ≠ 0 := by rw [h.1]; decide
        obtain ⟨i1, i2⟩ := At.prns he (last := p) ha hp
        refine ⟨?_, ?_⟩
        · show At s e [] (prnSt s e (l.length + 1) last st)
          unfold prnSt
          rw [if_neg h0, h1, hO]
          exact i1
        · show prnL s e (l.length + 1) last st = _
          unfold prnL
          rw [if_neg h0, h1, hO, i2]
theorem At.done {s : ByteArray} {e k : Nat} (h : At s e [] (bodySt s e k)) : fieldsP s e k = (bodySn s e k, 0, 0) := by
  refine fieldsP_ok ?_
  unfold endSt
  rw [if_neg (by rw [h.2.2.1 rfl]; decide)]
  exact h.1

/-- The fields of a line as bytes. -/
def fieldsL (x : Sn) : List (List UInt8) :=
  if x.kind = 1 then [70, 73, 88] :: ([x.time, oneI x.ok, x.p0, x.p1, x.p2, x.l0, x.l1, x.l2, (x.prns.length : Int)].map Lib.itoa ++ x.prns.map Lib.itoa)
  else if x.kind = 2 then [83, 65, 84] :: [x.time, oneI x.ok, x.prn, x.lag, x.power].map Lib.itoa
  else [84, 88, 84] :: [Lib.itoa x.time, x.text.data.toList]
theorem fieldsL_eq (x : Sn) : (fieldsT x).map (·.data.toList) = fieldsL x := by
  unfold fieldsT fieldsL
  split
  · simp [itoaB, Function.comp_def]
  · split <;> simp [itoaB]
def bodyL (x : Sn) : List UInt8 := Lib.join (fieldsL x) [44]
theorem bodyL_eq (x : Sn) : (bodyT x).data.toList = bodyL x := by
  unfold bodyT joinB bodyL
  rw [fieldsL_eq]
theorem hex_piece : ∀ i : Fin 16, (hexB.extract i.val (i.val + 1)).data.toList = [hexL[i.val]] := by decide
def hexC (v : Nat) : UInt8 := hexL.getD v 48
theorem hex_extract {v : Nat} (h : v < 16) : (hexB.extract v (v + 1)).data.toList = [hexC v] := by
  rw [hex_piece ⟨v, h⟩]
  unfold hexC
  have h' : v < hexL.length := h
  rw [List.getD_eq_getElem?_getD, List.getElem?_eq_getElem h']
  rfl
theorem hexZ_C : ∀ v : Fin 16, hexZ (hexC v.val) = v.val := by decide
theorem line_list (x : Sn) : (lineB x).data.toList = 36 :: (bodyL x ++ [42, hexC (sumN (bodyL x) / 16), hexC (sumN (bodyL x) % 16)]) := by
  have hs := sumN_lt (bodyL x)
  unfold lineB wrapB
  rw [bodyL_eq]
  simp only [ByteArray.data_append, Array.toList_append, hex_extract (show sumN (bodyL x) / 16 < 16 by omega), hex_extract (show sumN (bodyL x) % 16 < 16 by omega), bodyL_eq]
  simp
theorem line_size (x : Sn) : (lineB x).size = (bodyL x).length + 4 := by
  rw [← len_size, line_list]
  simp
theorem mem_join {c : UInt8} : ∀ {G : List (List UInt8)}, c ∈ Lib.join G [44] → c = 44 ∨ ∃ f ∈ G, c ∈ f
  | [], h => by simp [Lib.join_nil] at h
  | [f], h => by rw [Lib.join_one] at h; exact Or.inr ⟨f, by simp, h⟩
  | f :: g :: r, h => by
    rw [join_cc] at h
    rcases List.mem_append.1 h with h | h
    · exact Or.inr ⟨f, by simp, h⟩
    · rcases List.mem_cons.1 h with h | h
      · exact Or.inl h
      · rcases mem_join h with h | ⟨f', hf, hc⟩
        · exact Or.inl h
        · exact Or.inr ⟨f', List.mem_cons_of_mem _ hf, hc⟩
theorem fit_bytes {l : List UInt8} (h : l.all fitB = true) : ∀ c ∈ l, c ≠ 44 ∧ c ≠ 42 := by
  intro c hc
  have h1 := List.all_eq_true.1 h c hc
  constructor <;> (intro e; subst e; exact absurd h1 (by decide))
theorem no_star {x : Sn} (h : checkE x = 0) : 42 ∉ bodyL x := by
  intro hm
  rcases mem_join hm with e | ⟨f, hf, hc⟩
  · exact absurd e (by decide)
  · unfold fieldsL at hf
    by_cases k1 : x.kind = 1
    · rw [if_pos k1, List.mem_cons, List.mem_append, List.mem_map, List.mem_map] at hf
      rcases hf with rfl | ⟨n, _, rfl⟩ | ⟨n, _, rfl⟩
      · exact absurd hc (by decide)
      · exact (itoa_bytes n _ hc).2 rfl
      · exact (itoa_bytes n _ hc).2 rfl
    · rw [if_neg k1] at hf
      by_cases k2 : x.kind = 2
      · rw [if_pos k2, List.mem_cons, List.mem_map] at hf
        rcases hf with rfl | ⟨n, _, rfl⟩
        · exact absurd hc (by decide)
        · exact (itoa_bytes n _ hc).2 rfl
      · rw [if_neg k2] at hf
        have k3 : x.kind = 3 := by have := zero_kind h; omega
        simp only [List.mem_cons, List.not_mem_nil, or_false] at hf
        rcases hf with rfl | rfl | rfl
        · exact absurd hc (by decide)
        · exact (itoa_bytes _ _ hc).2 rfl
        · exact (fit_bytes (text_le (zero_3 h k3).2).2 _ hc).2 rfl
theorem itoa_len {n : Int} (k : Nat) (h0 : -(10 ^ (k + 1) : Nat) < n) (h1 : n < (10 ^ (k + 1) : Nat)) : (Lib.itoa n).length ≤ k + 2 := by
  rcases itoa_cases n with ⟨h, e⟩ | ⟨h, e⟩
  · have := dec_len (u := n.natAbs) k (by omega)
    rw [e, List.length_cons]; omega
  · have := dec_len (u := n.toNat) k (by omega)
    rw [e]; omega
theorem itoa_two_len {n : Int} (h0 : 1 ≤ n) (h1 : n ≤ 63) : (Lib.itoa n).length ≤ 2 := by
  rcases itoa_cases n with ⟨h, e⟩ | ⟨h, e⟩
  · omega
  · have := dec_len (u := n.toNat) 1 (by omega)
    rw [e]; omega
theorem join_len (m : Nat) : ∀ (G : List (List UInt8)), (∀ f ∈ G, f.length ≤ m) → (Lib.join G [44]).length ≤ (m + 1) * G.length
  | [], _ => by simp [Lib.join_nil]
  | [f], h => by
    rw [Lib.join_one]
    have := h f (by simp)
    simp; omega
  | f :: g :: r, h => by
    have h1 := h f (by simp)
    have h2 := join_len m (g :: r) (fun y hy => h y (List.mem_cons_of_mem _ hy))
    rw [join_cc, List.length_append, List.length_cons]
    simp only [List.length_cons, Nat.mul_succ] at h2 ⊢
    omega
theorem join_app : ∀ (F G : List (List UInt8)), (Lib.join (F ++ G) [44]).length ≤ (Lib.join F [44]).length + 1 + (Lib.join G [44]).length
  | [], G => by simp [Lib.join_nil]
  | [f], [] => by simp [Lib.join_one, Lib.join_nil]
  | [f], g :: G => by
    show (Lib.join (f :: g :: G) [44]).length ≤ _
    rw [join_cc, Lib.join_one, List.length_append, List.length_cons]; omega
  | f :: g :: F, G => by
    have := join_app (g :: F) G
    show (Lib.join (f :: g :: (F ++ G)) [44]).length ≤ _
    rw [join_cc, join_cc, List.length_append, List.length_cons, List.length_append, List.length_cons]
    simp only [List.cons_append] at this
    omega
theorem oneI_in (b : Bool) : 0 ≤ oneI b ∧ oneI b ≤ 1 := by cases b <;> decide
theorem body_len_le {x : Sn} (h : checkE x = 0) : (bodyL x).length ≤ 490 := by
  have ht := zero_time h
  have ho := oneI_in x.ok
  unfold bodyL fieldsL
  by_cases k1 : x.kind = 1
  · obtain ⟨_, h2, h3, h4⟩ := zero_1 h k1
    have hl := level_range h2
    simp only [List.mem_cons, List.not_mem_nil, or_false, forall_eq_or_imp, forall_eq] at hl
    rw [if_pos k1]
    have j1 := join_app ([70, 73, 88] :: [x.time, oneI x.ok, x.p0, x.p1, x.p2, x.l0, x.l1, x.l2, (x.prns.length : Int)].map Lib.itoa) (x.prns.map Lib.itoa)
    have j2 := join_len 20 ([70, 73, 88] :: [x.time, oneI x.ok, x.p0, x.p1, x.p2, x.l0, x.l1, x.l2, (x.prns.length : Int)].map Lib.itoa) (by
      intro f hf
      rw [List.mem_cons, List.mem_map] at hf
      rcases hf with rfl | ⟨n, hn, rfl⟩
      · decide
      · refine itoa_len 18 ?_ ?_ <;> (simp only [List.mem_cons, List.not_mem_nil, or_false] at hn; omega))
    have j3 := join_len 2 (x.prns.map Lib.itoa) (by
      intro f hf
      rw [List.mem_map] at hf
      obtain ⟨n, hn, rfl⟩ := hf
      have := prnsE_range h4 n hn
      exact itoa_two_len this.1 this.2)
    simp only [List.length_cons, List.length_map, List.length_nil, List.map_cons, List.map_nil] at j2 j3
    simp only [List.cons_append] at j1
    refine Nat.le_trans j1 ?_
    simp only [List.map_cons, List.map_nil]
    omega
  · rw [if_neg k1]
    by_cases k2 : x.kind = 2
    · obtain ⟨_, h2, h3, h4⟩ := zero_2 h k2
      rw [if_pos k2]
      have j2 := join_len 20 ([83, 65, 84] :: [x.time, oneI x.ok, x.prn, x.lag, x.power].map Lib.itoa) (by
        intro f hf
        rw [List.mem_cons, List.mem_map] at hf
        rcases hf with rfl | ⟨n, hn, rfl⟩
        · decide
        · refine itoa_len 18 ?_ ?_ <;> (simp only [List.mem_cons, List.not_mem_nil, or_false] at hn; omega))
      refine Nat.le_trans j2 ?_
      simp
    · have k3 : x.kind = 3 := by have := zero_kind h; omega
      rw [if_neg k2]
      have hx := (text_le (zero_3 h k3).2).1
      have j2 := join_len 80 [[84, 88, 84], Lib.itoa x.time, x.text.data.toList] (by
        intro f hf
        simp only [List.mem_cons, List.not_mem_nil, or_false] at hf
        rcases hf with rfl | rfl | rfl
        · decide
        · exact Nat.le_trans (itoa_len 18 (by omega) (by omega)) (by decide)
        · exact hx)
      refine Nat.le_trans j2 ?_
      simp
theorem line_drop (x : Sn) : ((lineB x).data.toList.drop 1).take (1 + (bodyL x).length - 1) = bodyL x := by
  rw [line_list, Nat.add_sub_cancel_left]
  show (bodyL x ++ _).take (bodyL x).length = _
  exact List.take_left
theorem line_star {x : Sn} (h : checkE x = 0) : starN (lineB x) = 1 + (bodyL x).length := by
  unfold starN
  rw [line_list, upto_cons, if_neg (by decide), upto_app (no_star h), Nat.add_comm]
theorem line_hex1 (x : Sn) : hexAt (lineB x) (1 + (bodyL x).length + 1) = (sumN (bodyL x) / 16 : Nat) ∧ hexAt (lineB x) (1 + (bodyL x).length + 2) = (sumN (bodyL x) % 16 : Nat) := by
  have hs := sumN_lt (bodyL x)
  have hz : ∀ {i : Nat} {c : UInt8}, (lineB x).data.toList[i]? = some c → hexAt (lineB x) i = hexZ c := by
    intro i c hc
    obtain ⟨hlt, he⟩ := List.getElem?_eq_some_iff.1 hc
    rw [hexAt_get (by rw [← len_size]; exact hlt), ← he]
    rfl
  constructor
  · rw [hz (c := hexC (sumN (bodyL x) / 16)) (by rw [line_list, show 1 + (bodyL x).length + 1 = ((bodyL x).length + 1) + 1 by omega, List.getElem?_cons_succ, List.getElem?_append_right (by omega), Nat.add_sub_cancel_left]; rfl)]
    exact hexZ_C ⟨_, by omega⟩
  · rw [hz (c := hexC (sumN (bodyL x) % 16)) (by rw [line_list, show 1 + (bodyL x).length + 2 = ((bodyL x).length + 2) + 1 by omega, List.getElem?_cons_succ, List.getElem?_append_right (by omega), Nat.add_sub_cancel_left]; rfl)]
    exact hexZ_C ⟨_, by omega⟩
theorem line_ends {x : Sn} (h : checkE x = 0) : endsP (lineB x) = (1 + (bodyL x).length, 0, 0) := by
  have hb := body_len_le h
  have hz := line_size x
  obtain ⟨x1, x2⟩ := line_hex1 x
  unfold endsP
  rw [if_neg (by omega), if_neg (by rw [line_list]; simp), line_star h, if_neg (by omega), x1, x2, if_neg (by omega), if_neg (by omega), if_neg (by omega), extract_list, line_drop, if_neg (by omega)]
theorem line_at0 (x : Sn) (hf : fieldsL x ≠ []) : At (lineB x) (1 + (bodyL x).length) (fieldsL x) st0 :=
  ⟨rfl, rfl, fun e => absurd e hf, fun _ => ⟨rfl, by show 1 ≤ _; omega, line_drop x⟩⟩
theorem one_back (b : Bool) : (oneI b == 1) = b := by cases b <;> rfl
theorem bytes_eq {a b : ByteArray} (h : a.data.toList = b.data.toList) : a = b := by
  cases a; cases b; congr 1; exact Array.toList_inj.1 h
theorem line_fields {x : Sn} (h : checkE x = 0) : fieldsP (lineB x) (1 + (bodyL x).length) (kindW (wordF (lineB x) (1 + (bodyL x).length)).data.toList) = (x, 0, 0) := by
  have hz := line_size x
  have he : 1 + (bodyL x).length ≤ (lineB x).size := by omega
  have ht := zero_time h
  have ho := oneI_in x.ok
  generalize hE : 1 + (bodyL x).length = e at he
  by_cases k1 : x.kind = 1
  · obtain ⟨⟨q1, q2, q3, q4⟩, h2, h3, h4⟩ := zero_1 h k1
    have hl := level_range h2
    unfold levelB levB at h2
    simp only [Bool.and_eq_true] at h2
    obtain ⟨⟨⟨a1, a2⟩, ⟨b1, b2⟩⟩, ⟨c1, c2⟩⟩ := h2
    have a1 := inR_yes a1; have a2 := inR_yes a2; have b1 := inR_yes b1; have b2 := inR_yes b2; have c1 := inR_yes c1; have c2 := inR_yes c2
    simp [pos, lev] at a1 a2 b1 b2 c1 c2
    have hF : fieldsL x = [70, 73, 88] :: Lib.itoa x.time :: Lib.itoa (oneI x.ok) :: Lib.itoa x.p0 :: Lib.itoa x.p1 :: Lib.itoa x.p2 :: Lib.itoa x.l0 :: Lib.itoa x.l1 :: Lib.itoa x.l2 :: Lib.itoa (x.prns.length : Int) :: x.prns.map Lib.itoa := by
      unfold fieldsL; rw [if_pos k1]; rfl
    have t0 := line_at0 x (by rw [hF]; simp)
    rw [hF, hE] at t0
    generalize lineB x = s at *
    obtain ⟨t1, w1⟩ := t0.txt he (by decide)
    have w2 : (wordF s e).data.toList = [70, 73, 88] := w1
    rw [w2, show kindW [70, 73, 88] = 1 from rfl]
    obtain ⟨t2, v2⟩ := t1.num (lo := 0) (hi := 604799999) (wr := 2) he (by omega) (by omega) (by omega) (by omega)
    change At s e _ (stT s e) at t2
    generalize hst : stT s e = st at t2
    obtain ⟨t3, v3⟩ := t2.num (lo := (fixB 0).1) (hi := (fixB 0).2.1) (wr := (fixB 0).2.2) he (by omega) (by omega) (by simp [fixB]; omega) (by simp [fixB]; omega)
    change At s e _ (fixSt s e st 1) at t3
    obtain ⟨t4, v4⟩ := t3.num (lo := (fixB 1).1) (hi := (fixB 1).2.1) (wr := (fixB 1).2.2) he (by omega) (by omega) (by simp [fixB]; omega) (by simp [fixB]; omega)
    change At s e _ (fixSt s e st 2) at t4
    obtain ⟨t5, v5⟩ := t4.num (lo := (fixB 2).1) (hi := (fixB 2).2.1) (wr := (fixB 2).2.2) he (by omega) (by omega) (by simp [fixB]; omega) (by simp [fixB]; omega)
    change At s e _ (fixSt s e st 3) at t5
    obtain ⟨t6, v6⟩ := t5.num (lo := (fixB 3).1) (hi := (fixB 3).2.1) (wr := (fixB 3).2.2) he (by omega) (by omega) (by simp [fixB]; omega) (by simp [fixB]; omega)
    change At s e _ (fixSt s e st 4) at t6
    obtain ⟨t7, v7⟩ := t6.num (lo := (fixB 4).1) (hi := (fixB 4).2.1) (wr := (fixB 4).2.2) he (by omega) (by omega) (by simp [fixB]; omega) (by simp [fixB]; omega)
    change At s e _ (fixSt s e st 5) at t7
    obtain ⟨t8, v8⟩ := t7.num (lo := (fixB 5).1) (hi := (fixB 5).2.1) (wr := (fixB 5).2.2) he (by omega) (by omega) (by simp [fixB]; omega) (by simp [fixB]; omega)
    change At s e _ (fixSt s e st 6) at t8
    obtain ⟨t9, v9⟩ := t8.num (lo := (fixB 6).1) (hi := (fixB 6).2.1) (wr := (fixB 6).2.2) he (by omega) (by omega) (by simp [fixB]; omega) (by simp [fixB]; omega)
    change At s e _ (fixSt s e st 7) at t9
    obtain ⟨t10, v10⟩ := t9.num (lo := (fixB 7).1) (hi := (fixB 7).2.1) (wr := (fixB 7).2.2) he (by omega) (by omega) (by simp [fixB]) (by simp [fixB]; omega)
    change At s e _ (fixSt s e st 8) at t10
    obtain ⟨t11, v11⟩ := t10.prns he h4
    have hm : fixMany s e st = x.prns.length := by unfold fixMany; rw [v10]; rfl
    have hb : At s e [] (bodySt s e 1) := by
      rw [bodySt_1, hst]
      unfold fixEnd
      rw [hm]
      exact t11
    rw [hb.done]
    have hL : fixL s e st = x.prns := by unfold fixL; rw [hm]; exact v11
    have v3' : numO s e (fixSt s e st 0) = oneI x.ok := v3
    have v2' : numO s e (stW s e) = x.time := v2
    unfold bodySn
    rw [hst, v2']
    simp only [if_pos, v3', v4, v5, v6, v7, v8, v9, hL, one_back]
    have hx : x.text = ⟨#[]⟩ := bytes_eq q4
    obtain ⟨y0, y1, y2, y3, y4, y5, y6, y7, y8, y9, y10, y11, y12, y13⟩ := x
    simp only at q1 q2 q3 hx k1
    subst q1 q2 q3 hx k1
    rfl
  · by_cases k2 : x.kind = 2
    · obtain ⟨⟨q1, q2, q3, q4, q5, q6, q7, q8⟩, h2, h3, h4⟩ := zero_2 h k2
      have hF : fieldsL x = [83, 65, 84] :: Lib.itoa x.time :: Lib.itoa (oneI x.ok) :: Lib.itoa x.prn :: Lib.itoa x.lag :: Lib.itoa x.power :: [] := by
        unfold fieldsL; rw [if_neg k1, if_pos k2]; rfl
      have t0 := line_at0 x (by rw [hF]; simp)
      rw [hF, hE] at t0
      generalize lineB x = s at *
      obtain ⟨t1, w1⟩ := t0.txt he (by decide)
      have w2 : (wordF s e).data.toList = [83, 65, 84] := w1
      rw [w2, show kindW [83, 65, 84] = 2 from rfl]
      obtain ⟨t2, v2⟩ := t1.num (lo := 0) (hi := 604799999) (wr := 2) he (by omega) (by omega) (by omega) (by omega)
      change At s e _ (stT s e) at t2
      generalize hst : stT s e = st at t2
      obtain ⟨t3, v3⟩ := t2.num (lo := 0) (hi := 1) (wr := 2) he (by omega) (by omega) (by omega) (by omega)
      change At s e _ (chan1 s e st) at t3
      obtain ⟨t4, v4⟩ := t3.num (lo := 1) (hi := 63) (wr := 2) he (by omega) (by omega) (by omega) (by omega)
      change At s e _ (chan2 s e st) at t4
      obtain ⟨t5, v5⟩ := t4.num (lo := 0) (hi := 8191) (wr := 2) he (by omega) (by omega) (by omega) (by omega)
      change At s e _ (chan3 s e st) at t5
      obtain ⟨t6, v6⟩ := t5.num (lo := 0) (hi := 1000000000000000000) (wr := 2) he (by omega) (by omega) (by omega) (by omega)
      have hb : At s e [] (bodySt s e 2) := by rw [bodySt_2, hst]; exact t6
      rw [hb.done]
      have v2' : numO s e (stW s e) = x.time := v2
      unfold bodySn
      rw [hst, v2', if_neg (by decide), if_pos rfl, v3, v4, v5, v6, one_back]
      have hx : x.text = ⟨#[]⟩ := bytes_eq q8
      obtain ⟨y0, y1, y2, y3, y4, y5, y6, y7, y8, y9, y10, y11, y12, y13⟩ := x
      simp only at q1 q2 q3 q4 q5 q6 q7 hx k2
      subst q1 q2 q3 q4 q5 q6 q7 hx k2
      rfl
    · have k3 : x.kind = 3 := by have := zero_kind h; omega
      obtain ⟨⟨q1, q2, q3, q4, q5, q6, q7, q8, q9, q10, q11⟩, h2⟩ := zero_3 h k3
      have hc := fit_bytes (text_le h2).2
      have hF : fieldsL x = [84, 88, 84] :: Lib.itoa x.time :: x.text.data.toList :: [] := by
        unfold fieldsL; rw [if_neg k1, if_neg k2]
      have t0 := line_at0 x (by rw [hF]; simp)
      rw [hF, hE] at t0
      generalize lineB x = s at *
      obtain ⟨t1, w1⟩ := t0.txt he (by decide)
      have w2 : (wordF s e).data.toList = [84, 88, 84] := w1
      rw [w2, show kindW [84, 88, 84] = 3 from rfl]
      obtain ⟨t2, v2⟩ := t1.num (lo := 0) (hi := 604799999) (wr := 2) he (by omega) (by omega) (by omega) (by omega)
      change At s e _ (stT s e) at t2
      generalize hst : stT s e = st at t2
      obtain ⟨t3, v3⟩ := t2.txt he (fun hm => (hc _ hm).1 rfl)
      have hb : At s e [] (bodySt s e 3) := by
        rw [bodySt_3, hst]
        unfold textSt
        rw [v3, if_pos h2]
        exact t3
      rw [hb.done]
      have v2' : numO s e (stW s e) = x.time := v2
      unfold bodySn
      rw [hst, v2', if_neg (by decide), if_neg (by decide), if_pos rfl, bytes_eq v3]
      obtain ⟨y0, y1, y2, y3, y4, y5, y6, y7, y8, y9, y10, y11, y12, y13⟩ := x
      simp only at q1 q2 q3 q4 q5 q6 q7 q8 q9 q10 q11 k3
      subst q1 q2 q3 q4 q5 q6 q7 q8 q9 q10 q11 k3
      rfl
/-- A sentence is read from its line. -/
theorem parse_line {x : Sn} (h : checkE x = 0) : parse (lineB x) = (x, 0, 0) := by
  unfold parse
  rw [line_ends h, if_neg (fun h => h rfl)]
  exact line_fields h
end Plain
end Go.Proofs.YteeekdffbcbamaaGreatDoor
/-
  WALKS: the lines of sentences (package report: Lines).
-/
namespace Go.Proofs.YteeekdffbcbamaaGreatDoor
open Go.RowKit Go.Shelf

theorem writeString_any (B b : Nat) (l : List UInt8) (s : ByteArray) (w : World) (h : Lib.IsBuilder 52 5 B b (Lib.byteCells l) w) (hlen : l.length + s.size ≤ 140737488355328) (hBw : B ≤ w.heap.size) :
    Calls Tryz.prog 26 #[.pointer (some ⟨b, 0, none⟩), .string s] w fun e w' => e = .returned (.tuple #[.int .i64 s.size, .nilIface]) ∧ Lib.IsBuilder 52 5 B b (Lib.byteCells (l ++ s.data.toList)) w' ∧ Below B w w' := by
  have h := Any.Builder_WriteString { Tryz.l156 with } extra156 B b (Lib.byteCells l) s w h (by rw [Lib.byteCells_length]; exact hlen) hBw
  change Calls Tryz.prog 26 _ _ _ at h
  refine h.mono fun e w' ⟨h1, h2, h3⟩ => ⟨h1, Or.inr ?_, h3⟩
  have e : Lib.byteCells (l ++ s.data.toList) = Lib.byteCells l ++ Lib.strCells s := by
    simp [Lib.byteCells, Lib.strCells]
  rw [e]
  exact h2
theorem builderString_any (B b : Nat) (l : List UInt8) (w : World) (h : Lib.IsBuilder 52 5 B b (Lib.byteCells l) w) (hBw : B ≤ w.heap.size) :
    Calls Tryz.prog 27 #[.pointer (some ⟨b, 0, none⟩)] w fun e w' => e = .returned (.string ⟨l.toArray⟩) ∧ Below B w w' := by
  have h := Any.Builder_String_any { Tryz.l156 with } extra156 B b l w h hBw
  change Calls Tryz.prog 27 _ _ _ at h
  exact h
theorem isB_below {T e : TypeId} {B b : Nat} {bs : List Value} {W W' : World} (h : Lib.IsBuilder T e B b bs W) (hb : Below W.heap.size W W') : Lib.IsBuilder T e B b bs W' := by
  have aux : ∀ p, Lib.BuilderAt T e B b p bs W → Lib.BuilderAt T e B b p bs W' := by
    intro p h
    have hlt := h.lt
    obtain ⟨hB, v, hv, hown, hne⟩ := h
    exact ⟨hB, v, (hb.block b hlt).trans hv, own_below hown hb, hne⟩
  rcases h with h | h
  · exact Or.inl (aux _ h)
  · exact Or.inr (aux _ h)
theorem lineB_size {x : Plain.Sn} (h : Plain.checkE x = 0) : (lineB x).size ≤ 494 := by
  have := Plain.body_len_le h
  rw [Plain.line_size]
  omega
/-- What Lines comes to. -/
noncomputable def linesR : List Plain.Sn → List UInt8 → ByteArray × Int
  | [], acc => (⟨acc.toArray⟩, 0)
  | x :: r, acc => if Plain.checkE x = 0 then linesR r (acc ++ (lineB x).data.toList ++ [10]) else (⟨#[]⟩, Plain.checkE x)
noncomputable def linesA (l : List Plain.Sn) : ByteArray × Int := if 200 < l.length then (⟨#[]⟩, 4) else linesR l []
set_option maxRecDepth 100000 in
set_option maxHeartbeats 4000000 in
theorem lines_long (n c : Nat) (A : Option Addr) (w : World) (hn : 200 < n) : Calls Tryz.prog 9 #[.slice A n c] w fun en w' => en = .returned (.tuple #[.string ⟨#[]⟩, .int .i64 4]) ∧ Below w.heap.size w w' := by
  have h2 : (200 : Int) < n := by omega
  go_enter Tryz.func9, Tryz.ntmps9
  go_wp2_with fail
  go_ret2
  exact ⟨rfl, Below.refl _ _⟩
set_option maxRecDepth 100000 in
set_option maxHeartbeats 4000000 in
theorem lines_any (es : List (Plain.Sn × Value)) (A : Option Addr) (n c : Nat) (w : World) (he : Env w) (hn : es.length = n) (hn2 : n ≤ 200) (hp : ∀ e ∈ es, e.1.prns.length ≤ 9223372036854775807 ∧ e.1.text.size ≤ 1000000) (h1 : SnAt w A es) :
    Calls Tryz.prog 9 #[.slice A n c] w (LinePost w (linesR (es.map (·.1)) [])) := by
  have h2 : ¬ (200 : Int) < n := by omega
  have h0 : Lib.IsBuilder 52 5 w.heap.size w.heap.size (Lib.byteCells []) (w.alloc (.cells #[.pointer none, .slice none 0 0] 52)) :=
    Or.inl ⟨Nat.le_refl _, .slice none 0 0, heap_alloc_new w _, World.ownsRow_nil _ _ _ _, by simp [Value.ownBlock]⟩
  have HP := Lib.hid (And.intro hp hn)
  have H1 := Lib.hid h1
  have HE := Lib.hid he
  have H0 := Lib.hid h0
  have HZ := Lib.hid (show 200 ≤ 200 from Nat.le_refl _)
  have HRR := Lib.hid (show linesR (es.map (·.1)) [] = linesR ((es.drop 0).map (·.1)) [] from rfl)
  clear hp h1 hn he h0
  generalize linesR (es.map (·.1)) [] = R at *
  go_enter Tryz.func9, Tryz.ntmps9
  go_wp2_with fail
  go_loopw [14] (fun i wr => ∃ (k : Nat) (acc : List UInt8), k ≤ n ∧ i = .int .i64 k ∧ R = linesR ((es.drop k).map (·.1)) acc ∧ acc.length ≤ k * 500 ∧ Lib.IsBuilder 52 5 w.heap.size w.heap.size (Lib.byteCells acc) wr ∧ Below w.heap.size w wr) (fun i _ => n - (intOf i).toNat)
  case atStart => exact ⟨0, [], Nat.zero_le _, rfl, HRR.out, Nat.zero_le _, H0.out, (Below.refl _ _).alloc (Nat.le_refl _) _⟩
  case round =>
    obtain ⟨k, acc, hk, rfl, hR, hacc, hB, hb⟩ := hrel
    have HB := Lib.hid hb
    have HBU := Lib.hid hB
    clear hb hB HRR H0
    by_cases hlt : k < n
    · obtain ⟨hp, hn⟩ := HP.out
      have hk1 : k < es.length := by omega
      obtain ⟨a1, o1, e1, ⟨B1, d1, v1, p1⟩, g1⟩ := (H1.out.below HB.out) k hk1
      have hpl := hp _ (List.getElem_mem hk1)
      have hdr : es.drop k = es[k] :: es.drop (k + 1) := List.drop_eq_getElem_cons hk1
      rw [hdr, List.map_cons] at hR
      rw [v1] at g1
      have hsz := fun (h : Plain.checkE es[k].1 = 0) => lineB_size h
      have hL := fun (W : World) (he : Env W) (hN : PrL W B1 (es[k]'hk1).1.prns) => line_any (es[k]'hk1).1 B1 d1 W he hN hpl.2 hpl.1
      unfold lineR at hL
      unfold linesR at hR
      generalize es[k].1 = x at *
      generalize Plain.checkE x = er at *
      have HLN := Lib.hid hL
      have HR := Lib.hid hR
      subst e1
      have HP1 := Lib.hid p1
      clear hp hn hk1 hpl v1 p1 hdr hL hR
      unfold snCells at g1 HLN
      generalize x.prns.length = pn at *
      have x0 : wr.cell? ⟨a1, o1 + k * 14, none⟩ = some (.int .i64 x.kind) := g1 0 _ rfl
      have x1 : wr.cell? ⟨a1, o1 + k * 14 + 1, none⟩ = some (.int .i64 x.time) := g1 1 _ rfl
      have x2 : wr.cell? ⟨a1, o1 + k * 14 + 2, none⟩ = some (.bool x.ok) := g1 2 _ rfl
      have x3 : wr.cell? ⟨a1, o1 + k * 14 + 3, none⟩ = some (.int .i64 x.p0) := g1 3 _ rfl
      have x4 : wr.cell? ⟨a1, o1 + k * 14 + 4, none⟩ = some (.int .i64 x.p1) := g1 4 _ rfl
      have x5 : wr.cell? ⟨a1, o1 + k * 14 + 5, none⟩ = some (.int .i64 x.p2) := g1 5 _ rfl
      have x6 : wr.cell? ⟨a1, o1 + k * 14 + 6, none⟩ = some (.int .i64 x.l0) := g1 6 _ rfl
      have x7 : wr.cell? ⟨a1, o1 + k * 14 + 7, none⟩ = some (.int .i64 x.l1) := g1 7 _ rfl
      have x8 : wr.cell? ⟨a1, o1 + k * 14 + 8, none⟩ = some (.int .i64 x.l2) := g1 8 _ rfl
      have x9 : wr.cell? ⟨a1, o1 + k * 14 + 9, none⟩ = some (.slice B1 pn d1) := g1 9 _ rfl
      have x10 : wr.cell? ⟨a1, o1 + k * 14 + 10, none⟩ = some (.int .i64 x.prn) := g1 10 _ rfl
      have x11 : wr.cell? ⟨a1, o1 + k * 14 + 11, none⟩ = some (.int .i64 x.lag) := g1 11 _ rfl
      have x12 : wr.cell? ⟨a1, o1 + k * 14 + 12, none⟩ = some (.int .i64 x.power) := g1 12 _ rfl
      have x13 : wr.cell? ⟨a1, o1 + k * 14 + 13, none⟩ = some (.string x.text) := g1 13 _ rfl
      have hlt' : (k : Int) < n := by omega
      have HSZ := Lib.hid hsz; clear hsz
      go_upto_region 7 with (fail)
      obtain ⟨w2, hw2⟩ : ∃ w2, wr.alloc (.cells #[.int .i64 x.kind, .int .i64 x.time, .bool x.ok, .int .i64 x.p0, .int .i64 x.p1, .int .i64 x.p2, .int .i64 x.l0, .int .i64 x.l1, .int .i64 x.l2, .slice B1 pn d1, .int .i64 x.prn, .int .i64 x.lag, .int .i64 x.power, .string x.text] 28) = w2 := ⟨_, rfl⟩
      have hX : Blk w2 wr.heap.size 28 _ := hw2 ▸ (Blk.new_at rfl)
      have hb2 : Below wr.heap.size wr w2 := hw2 ▸ (Below.refl _ _).alloc (Nat.le_refl _) _
      rw [hw2]
      clear hw2 x0 x1 x2 x3 x4 x5 x6 x7 x8 x9 x10 x11 x12 x13 g1
      obtain ⟨x0, x1, x2, x3, x4, x5, x6, x7, x8, x9, x10, x11, x12, x13⟩ := Blk.cells14 hX
      have HB2 := Lib.hid (HB.out.trans (hb2.mono HB.out.size))
      have HBU2 := Lib.hid (isB_below HBU.out hb2)
      have HP2 := Lib.hid (HP1.out.below hb2 (Nat.le_refl _))
      clear hX hb2 HB HBU HP1
      go_wp2_with fail
      refine (HLN.out w2 (HE.out.below HB2.out HE.out.1) HP2.out).mono ?_
      rintro en w3 ⟨rfl, hb3⟩
      have HB3 := Lib.hid (HB2.out.trans (hb3.mono HB2.out.size))
      have HBU3 := Lib.hid (isB_below HBU2.out hb3)
      clear hb3 HB2 HBU2 HP2 HLN x0 x1 x2 x3 x4 x5 x6 x7 x8 x9 x10 x11 x12 x13
      by_cases her : er = 0
      · subst her
        have hR2 := HR.out
        rw [if_pos rfl] at hR2
        have HR2 := Lib.hid hR2
        have hls := HSZ.out rfl
        have hq : ((0 : Int) != 0) = false := rfl
        have hadd : (lineB x ++ (⟨#[10]⟩ : ByteArray)).data.toList = (lineB x).data.toList ++ [10] := by simp [ByteArray.data_append]
        have hsz1 : (lineB x ++ (⟨#[10]⟩ : ByteArray)).size = (lineB x).size + 1 := by rw [ByteArray.size_append]; rfl
        have hls2 : (lineB x).size + 1 ≤ 1000000 := by omega
        have HW := Lib.hid (writeString_any w.heap.size w.heap.size acc (lineB x ++ ⟨#[10]⟩) w3 HBU3.out (by rw [hsz1]; omega) HB3.out.size)
        rw [hadd] at HW
        have hac2 : (acc ++ ((lineB x).data.toList ++ [10])).length ≤ (k + 1) * 500 := by
          have := Plain.len_size (lineB x)
          simp only [List.length_append, List.length_singleton]
          omega
        have HAC := Lib.hid hac2
        rw [List.append_assoc] at HR2
        clear hR2 hadd hac2 HSZ HR
        simp only [if_true]
        go_wp2_with fail
        refine HW.out.mono ?_
        rintro en w4 ⟨rfl, hbu4, hb4⟩
        have HB4 := Lib.hid (HB3.out.trans hb4)
        have HBU4 := Lib.hid hbu4
        clear hb4 hbu4 HW HBU3 HB3
        go_wp2_with fail
        go_roundw
        case rel => exact ⟨k + 1, _, by omega, by go_num, HR2.out, HAC.out, HBU4.out, HB4.out⟩
        case measure => simp [intOf]; omega
      · have hR2 := HR.out
        rw [if_neg her] at hR2
        have hq : (er != 0) = true := by simpa using her
        simp only [if_neg her]
        go_wp2_with fail
        go_ret2
        rw [hR2]
        exact ⟨rfl, HB3.out⟩
    · obtain rfl : k = n := by omega
      have hlt' : ¬ (k : Int) < k := by omega
      have hd : es.drop k = [] := List.drop_eq_nil_of_le (by rw [HP.out.2]; omega)
      rw [hd] at hR
      obtain rfl : R = (⟨acc.toArray⟩, 0) := hR
      have HS := Lib.hid (builderString_any w.heap.size w.heap.size acc wr HBU.out HB.out.size)
      go_wp2_with fail
      refine HS.out.mono ?_
      rintro en w1 ⟨rfl, hb1⟩
      have HB1 := Lib.hid (HB.out.trans hb1)
      clear hb1 HS
      go_wp2_with fail
      go_ret2
      exact ⟨rfl, HB1.out⟩
end Go.Proofs.YteeekdffbcbamaaGreatDoor
