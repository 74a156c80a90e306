/- The law FnPilesLoose as a plain statement of plain functions: it answers true, whatever comes in. No condition. -/
import Derived.Test.YtjdglbkjdfidoaaGreatDoorVQFnPilesLoosex1
namespace Go.Proofs.YtjdglbkjdfidoaaGreatDoorV.Law
set_option linter.unusedVariables false
set_option linter.unusedSimpArgs false
open Go.Proofs.YtjdglbkjdfidoaaGreatDoorV
/-! Texts of piles; what is drawn for piles. -/
def rdc (c : UInt8) : Int := if 48 ≤ c.toNat ∧ c.toNat ≤ 57 then (c.toNat : Int) - 48 else -1
theorem all8 {Q : UInt8 → Prop} (h : ∀ n : Nat, n < 256 → Q (UInt8.ofNat n)) (c : UInt8) : Q c := by
  have := h c.toNat c.toNat_lt
  rwa [UInt8.ofNat_toNat] at this
theorem num_one (c : UInt8) : numR [c] 1 = if 48 ≤ c.toNat ∧ c.toNat ≤ 57 then (((c.toNat - 48 : Nat) : Int), true) else (0, false) := by
  refine all8 (Q := fun c => numR [c] 1 = if 48 ≤ c.toNat ∧ c.toNat ≤ 57 then (((c.toNat - 48 : Nat) : Int), true) else (0, false)) ?_ c
  decide +kernel
theorem rdR_one (c : UInt8) : rdR [c] = rdc c := by
  refine all8 (Q := fun c => rdR [c] = rdc c) ?_ c
  decide +kernel
def pch (x : Int) : UInt8 := UInt8.ofNat (48 + x.toNat)
def ptx (p : List Int) : List UInt8 := p.map pch
theorem dg_one (x : Int) (h0 : 0 ≤ x) (h1 : x < 10) : dg x = [pch x] := by
  unfold dg dig pch
  rw [if_pos (by omega)]
theorem rdc_pch (x : Int) (h0 : 0 ≤ x) (h1 : x < 10) : rdc (pch x) = x := by
  obtain ⟨n, rfl⟩ := Int.eq_ofNat_of_zero_le h0
  have : ∀ n : Nat, n < 10 → rdc (pch (n : Int)) = (n : Int) := by decide +kernel
  exact this n (by omega)
theorem pch_rdc (c : UInt8) (h : 0 ≤ rdc c) : pch (rdc c) = c := by
  revert h
  refine all8 (Q := fun c => 0 ≤ rdc c → pch (rdc c) = c) ?_ c
  decide +kernel
theorem inter_nil : ∀ xs : List (List UInt8), (List.intersperse [] xs).flatten = xs.flatten
  | [] => rfl
  | [_] => rfl
  | x :: y :: r => by
    have ih := inter_nil (y :: r)
    show (x :: [] :: List.intersperse [] (y :: r)).flatten = _
    rw [List.flatten_cons, List.flatten_cons, ih, List.flatten_cons]; rfl
theorem join_one (p : List Int) (h : ∀ x ∈ p, 0 ≤ x ∧ x < 10) : Lib.join (p.map dg) [] = ptx p := by
  unfold Lib.join List.intercalate ptx
  rw [inter_nil]
  induction p with
  | nil => rfl
  | cons a p ih =>
    have ha := h a List.mem_cons_self
    rw [List.map_cons, List.flatten_cons, ih (fun x hx => h x (List.mem_cons_of_mem _ hx)), dg_one a ha.1 ha.2]; rfl
def pxV (p : List Int) : (ByteArray × Bool × Unit) × Unit := if isPl p = true then ((lit (ptx p), true, ()), ()) else ((ByteArray.empty, false, ()), ())
def ppV (s : List UInt8) : (List Int × Bool × Unit) × Unit := if (decide (s.length ≤ 16) && isPl (s.map rdc)) = true then ((s.map rdc, true, ()), ()) else (([], false, ()), ())
theorem ptx_len (p : List Int) : (ptx p).length = p.length := by simp [ptx]
theorem piText_is (k : Nat) (hk : 1000 ≤ k) (p : List Int) (hl : p.length ≤ 40) (h : ∀ x ∈ p, 0 ≤ x ∧ x < 10) : spec_piText_f k p = some ((lit (ptx p), ()), ()) := by
  unfold spec_piText_f
  have h9 : spec_piText_l1 k p ByteArray.empty 0 = some (.inl (lit (ptx p), ())) := by
    unfold spec_piText_l1
    refine iter_to (fun j : Nat => (lit (ptx (p.take j)), (j : Int), ())) p.length _ (fun j hj rec => ?_) (fun rec => ?_) k (by omega)
    · simp only [spec_piText_l1_b]
      have hx := h _ (List.getElem_mem hj)
      obtain ⟨x, hx2⟩ := Int.eq_ofNat_of_zero_le hx.1
      have hd : dig x = [pch (x : Int)] := by rw [← dg_one (x : Int) (by omega) (by omega)]; rfl
      rw [cond_dec, if_pos (by omega), ixk_in (by omega) (by omega), rd_nat p j hj, hx2, l1Num_is k (by omega) x (by omega), iw_nat (by omega), hd]
      simp only [Option.bind_some]
      rw [chk_dec (by rw [lit_size, lit_size, ptx_len, List.length_take]; simp; omega), lit_app, List.take_succ_eq_append_getElem hj, hx2]
      unfold ptx
      rw [List.map_append]; rfl
    · simp only [spec_piText_l1_b]
      rw [cond_dec, if_neg (by omega), List.take_length]
  rw [h9]; rfl
section
variable (k : Nat) (hk : 1000 ≤ k) (p : List Int) (hl : p.length ≤ 40)
include hk hl
theorem implPx_is : impl_PileText_f k p = some (pxV p) := by
  unfold impl_PileText_f pxV
  rw [implIP_is k hk p hl]
  cases h : isPl p with
  | false => rfl
  | true =>
    have G := isPl_g h
    have h8 := G.n8
    have hin : ∀ x ∈ p, 0 ≤ x ∧ x < 10 := fun x hx => by have := G.inn x hx; omega
    simp only [Option.bind_some, Bool.not_true, cond_false, if_true]
    rw [lit_nil, joinedG_is k p (by omega) (fun x hx => by have := hin x hx; omega) (by omega) [] (by rw [join_one p hin, ptx_len]; omega), join_one p hin]
    rfl
theorem specPx_is : spec_PileText_f k p = some (pxV p) := by
  unfold spec_PileText_f pxV
  rw [piGood_is k hk p hl]
  cases h : isPl p with
  | false => rfl
  | true =>
    have G := isPl_g h
    have h8 := G.n8
    have hin : ∀ x ∈ p, 0 ≤ x ∧ x < 10 := fun x hx => by have := G.inn x hx; omega
    simp only [Option.bind_some, Bool.not_true, cond_false, if_true]
    rw [piText_is k hk p hl hin]
    rfl
end
theorem isPl_neg {p : List Int} (h : (-1 : Int) ∈ p) : isPl p = false := by
  rw [Bool.eq_false_iff]
  intro h2
  have := (isPl_g h2).inn _ h
  omega
section
variable (k : Nat) (hk : 2000 ≤ k) (s : List UInt8) (hs : s.length ≤ 40)
include hk hs
theorem ext_one (i : Nat) (h : i < s.length) : ByteArray.extract (lit s) i (i + 1) = lit [s[i]] := by
  have _h := hk
  have _h := hs
  rw [ext_is, lit_list]
  congr 1
  rw [List.take_succ_eq_append_getElem h, List.drop_append, List.drop_eq_nil_of_le (by rw [List.length_take]; omega), List.length_take, Nat.min_eq_left (by omega), Nat.sub_self]
  rfl
theorem implPP_is : impl_ParsePile_f k (lit s) = some (ppV s) := by
  unfold impl_ParsePile_f ppV
  rw [cond_dec, lit_size]
  by_cases h16 : s.length ≤ 16
  · rw [if_neg (by omega), decide_eq_true h16]
    simp only [Bool.true_and]
    generalize hR : (if (s.all fun c => decide (48 ≤ c.toNat ∧ c.toNat ≤ 57)) = true then some (.inl (s.map rdc, ())) else some (.inr (([], false, ()), ())) : Option ((List Int × Unit) ⊕ ((List Int × Bool × Unit) × Unit))) = R
    have h9 : impl_ParsePile_l1 k (lit s) [] 0 = R := by
      unfold impl_ParsePile_l1
      refine iter_inv (fun j : Nat => ((s.take j).map rdc, (j : Int), ())) (fun j => ∀ i (hi : i < s.length), i < j → 48 ≤ s[i].toNat ∧ s[i].toNat ≤ 57) (fun _ => R) s.length (fun j hj hi => ?_) k 0 (by omega) (fun i _ h => by omega) (by omega)
      by_cases hlt : j < s.length
      · have hb : ∀ rec : List Int → Int → Option ((List Int × Unit) ⊕ ((List Int × Bool × Unit) × Unit)), impl_ParsePile_l1_b k (lit s) rec ((s.take j).map rdc) (j : Int) = cond (!(numR [s[j]] 1).2) (some (.inr (([], false, ()), ()))) (rec ((s.take j).map rdc ++ [(numR [s[j]] 1).1]) ((j + 1 : Nat) : Int)) := by
          intro rec
          simp only [impl_ParsePile_l1_b]
          rw [cond_dec, lit_size, if_pos (by omega), iw_nat (by omega), chk_dec (by omega), chk_dec (by omega), chk_dec (by omega), chk_dec (by omega), Int.toNat_natCast, Int.toNat_natCast, ext_one k hk s hs j hlt, show (1 : Int) = ((1 : Nat) : Int) from rfl, number_is k (lit [s[j]]) 1 (by omega) (by omega) (by rw [lit_size]; simp), lit_list]
          simp only [Option.bind_some]
          rw [chk_dec (by simp; omega)]
        by_cases hd : 48 ≤ s[j].toNat ∧ s[j].toNat ≤ 57
        · right
          refine ⟨hlt, fun i hi9 hij => ?_, rfl, fun rec => ?_⟩
          · rcases Nat.lt_or_ge i j with h9 | h9
            · exact hi i hi9 h9
            · have : i = j := by omega
              subst this; exact hd
          · show impl_ParsePile_l1_b k (lit s) _ ((s.take j).map rdc) (j : Int) = _
            rw [hb, num_one, if_pos hd]
            simp only [Bool.not_true, cond_false]
            rw [List.take_succ_eq_append_getElem hlt, List.map_append]
            have : rdc s[j] = ((s[j].toNat - 48 : Nat) : Int) := by unfold rdc; rw [if_pos hd]; omega
            simp [this]
        · left; intro rec
          show impl_ParsePile_l1_b k (lit s) _ ((s.take j).map rdc) (j : Int) = _
          rw [hb, num_one, if_neg hd, ← hR, if_neg]
          · rfl
          · rw [List.all_eq_true]
            intro h
            have := h _ (List.getElem_mem hlt)
            exact hd (of_decide_eq_true this)
      · left; intro rec
        simp only [impl_ParsePile_l1_b]
        rw [cond_dec, lit_size, if_neg (by omega), ← hR, if_pos, List.take_of_length_le (by omega)]
        rw [List.all_eq_true]
        intro c hc
        obtain ⟨i, hi9, rfl⟩ := List.getElem_of_mem hc
        exact decide_eq_true (hi i hi9 (by omega))
    rw [h9, ← hR]
    by_cases ha : (s.all fun c => decide (48 ≤ c.toNat ∧ c.toNat ≤ 57)) = true
    · rw [if_pos ha]
      simp only [met_inl]
      rw [implIP_is k (by omega) (s.map rdc) (by rw [List.length_map]; omega)]
      cases isPl (s.map rdc) <;> rfl
    · rw [if_neg ha]
      have hm : (-1 : Int) ∈ s.map rdc := by
        rw [List.all_eq_true] at ha
        have ⟨c, hc⟩ := Classical.not_forall.1 ha
        have ⟨hc1, hc2⟩ := Classical.not_imp.1 hc
        refine List.mem_map.2 ⟨c, hc1, ?_⟩
        unfold rdc
        rw [if_neg (fun h => hc2 (decide_eq_true h))]
      rw [isPl_neg hm]; rfl
  · rw [if_pos (by omega), decide_eq_false h16]; rfl
theorem specPP_is : spec_ParsePile_f k (lit s) = some (ppV s) := by
  unfold spec_ParsePile_f spec_piParse_f ppV
  rw [cond_dec, lit_size]
  by_cases h16 : s.length ≤ 16
  · rw [if_neg (by omega), decide_eq_true h16]
    simp only [Bool.true_and]
    have h9 : spec_piParse_l1 k (lit s) [] 0 = some (.inl (s.map rdc, ())) := by
      unfold spec_piParse_l1
      refine iter_to (fun j : Nat => ((s.take j).map rdc, (j : Int), ())) s.length _ (fun j hj rec => ?_) (fun rec => ?_) k (by omega)
      · simp only [spec_piParse_l1_b]
        rw [cond_dec, lit_size, if_pos (by omega), iw_nat (by omega), chk_dec (by omega), chk_dec (by omega), chk_dec (by omega), chk_dec (by omega), Int.toNat_natCast, Int.toNat_natCast, ext_one k hk s hs j hj, l1Read_is k (by omega) (lit [s[j]]) (by rw [lit_size]; simp), lit_list, rdR_one]
        simp only [Option.bind_some]
        rw [chk_dec (by simp; omega), List.take_succ_eq_append_getElem hj, List.map_append]
        rfl
      · simp only [spec_piParse_l1_b]
        rw [cond_dec, lit_size, if_neg (by omega), List.take_length]
    rw [h9]
    simp only [met_inl]
    rw [piGood_is k (by omega) (s.map rdc) (by rw [List.length_map]; omega)]
    cases isPl (s.map rdc) <;> rfl
  · rw [if_pos (by omega), decide_eq_false h16]; rfl
end
theorem pp_px {p : List Int} (h : isPl p = true) : ppV (ptx p) = ((p, true, ()), ()) := by
  have G := isPl_g h
  have h8 := G.n8
  have e := G.len
  have hm : (ptx p).map rdc = p := by
    unfold ptx
    rw [List.map_map]
    have : ∀ x ∈ p, (rdc ∘ pch) x = x := fun x hx => by have := G.inn x hx; exact rdc_pch x (by omega) (by omega)
    rw [List.map_congr_left this, List.map_id']
  unfold ppV
  rw [hm, h, ptx_len, decide_eq_true (by omega)]; rfl
theorem px_pp {s : List UInt8} (h : (ppV s).1.2.1 = true) : isPl (ppV s).1.1 = true ∧ ptx (ppV s).1.1 = s ∧ (ppV s).1.1.length ≤ 16 := by
  unfold ppV at h ⊢
  by_cases hc : (decide (s.length ≤ 16) && isPl (s.map rdc)) = true
  · rw [if_pos hc]
    simp only [Bool.and_eq_true, decide_eq_true_eq] at hc
    refine ⟨hc.2, ?_, by rw [List.length_map]; exact hc.1⟩
    have G := isPl_g hc.2
    show ptx (s.map rdc) = s
    unfold ptx
    rw [List.map_map]
    have : ∀ c ∈ s, (pch ∘ rdc) c = c := fun c hx => by have := G.inn _ (List.mem_map_of_mem hx); exact pch_rdc c this.1
    rw [List.map_congr_left this, List.map_id']
  · rw [if_neg hc] at h; cases h
/-! ### Draws -/
abbrev PiSR := (CurT × List Int × Unit) ⊕ ((List Int × Unit) × (CurT × Unit))
noncomputable def piSF (k : Nat) (y9 : (Int × Unit) × (CurT × Unit)) (rec : (CurT × List Int × Int × Unit) → Option PiSR) (x : CurT × List Int × Int × Unit) : Option PiSR := spec_l1Cur_surePile_l1_b k y9 (fun x0 x3 x5 => rec (x0, x3, x5, ())) x.1 x.2.1 x.2.2.1
theorem piS_loop (k : Nat) (y9 : (Int × Unit) × (CurT × Unit)) (b : Nat) (hb : b ≤ 4) (hy : y9.1.1 = (b : Int)) : ∀ (j i : Nat) (m : Int) (c : CurT) (l : List Int), Cur m c → m + 4 * j ≤ 999999999999990 → j < i → (∀ x ∈ l, 0 ≤ x ∧ x < 10) → l.length + j = 2 * (1 + b) →
    ∃ c' l', iter i (piSF k y9) (c, l, ((l.length : Nat) : Int), ()) = some (.inl (c', l', ())) ∧ Cur (m + 4 * j) c' ∧ (∀ x ∈ l', 0 ≤ x ∧ x < 10) ∧ l'.length = 2 * (1 + b)
  | j, 0, _, _, _, _, _, h, _, _ => by omega
  | 0, i + 1, m, c, l, hc, hm, _, hin, hl => by
    refine ⟨c, l, ?_, hc.mono (by omega), hin, by omega⟩
    rw [show iter (i + 1) (piSF k y9) (c, l, ((l.length : Nat) : Int), ()) = piSF k y9 (iter i (piSF k y9)) (c, l, ((l.length : Nat) : Int), ()) from rfl]
    simp only [piSF, spec_l1Cur_surePile_l1_b]
    rw [hy, iw_id (x := 1 + (b : Int)) (by omega) (by omega), iw_id (by omega) (by omega), cond_dec, if_neg (by omega)]
  | j + 1, i + 1, m, c, l, hc, hm, hi, hin, hl => by
    obtain ⟨v, c2, e2, a2, b2, h2, q2⟩ := pick_is k hc (by omega) (((l.length : Nat) : Int) + 1)
    obtain ⟨v, rfl⟩ := Int.eq_ofNat_of_zero_le a2
    have hv : v ≤ l.length := by omega
    have hin' : ∀ x ∈ ((l.take v ++ [((l.length / 2 : Nat) : Int)]) ++ l.drop v), 0 ≤ x ∧ x < 10 := by
      intro x hx
      rcases List.mem_append.1 hx with h | h
      · rcases List.mem_append.1 h with h | h
        · exact hin x (List.mem_of_mem_take h)
        · rw [List.mem_singleton.1 h]; omega
      · exact hin x (List.mem_of_mem_drop h)
    have hlen : ((l.take v ++ [((l.length / 2 : Nat) : Int)]) ++ l.drop v).length = l.length + 1 := by
      simp only [List.length_append, List.length_take, List.length_drop, List.length_cons, List.length_nil]; omega
    obtain ⟨c', l', e3, h3, d3, l3⟩ := piS_loop k y9 b hb hy j i (m + 2) c2 ((l.take v ++ [((l.length / 2 : Nat) : Int)]) ++ l.drop v) h2 (by omega) (by omega) hin' (by omega)
    refine ⟨c', l', ?_, h3.mono (by omega), d3, l3⟩
    rw [show iter (i + 1) (piSF k y9) (c, l, ((l.length : Nat) : Int), ()) = piSF k y9 (iter i (piSF k y9)) (c, l, ((l.length : Nat) : Int), ()) from rfl]
    simp only [piSF, spec_l1Cur_surePile_l1_b]
    rw [hy, iw_id (x := 1 + (b : Int)) (by omega) (by omega), iw_id (x := 2 * (1 + (b : Int))) (by omega) (by omega), cond_dec, if_pos (by omega), iw_id (x := ((l.length : Nat) : Int) + 1) (by omega) (by omega), ceta, e2]
    simp only [Option.bind_some]
    rw [chk_dec (by omega), chk_dec (by omega), Int.toNat_natCast]
    have ho : spec_l1Own_f k (l.take v) = some ((l.take v, ()), ()) := by
      unfold spec_l1Own_f
      rw [chk_dec (by rw [List.length_take]; omega)]
    rw [ho]
    simp only [Option.bind_some]
    rw [pldiv _ (by omega), chk_dec (by simp; omega), chk_dec (by omega), chk_dec (by omega), chk_dec (by simp; omega)]
    rw [hlen] at e3
    rw [show ((l.length : Nat) : Int) + 1 = ((l.length + 1 : Nat) : Int) by omega]
    exact e3
theorem surePile_is (k : Nat) (hk : 100 ≤ k) {m : Int} {c : CurT} (h : Cur m c) (hm : m ≤ 999999999999000) :
    ∃ l c', spec_l1Cur_surePile_f k c = some ((l, ()), (c', ())) ∧ Cur (m + 50) c' ∧ (∀ x ∈ l, 0 ≤ x ∧ x < 10) ∧ 2 ≤ l.length ∧ l.length ≤ 10 := by
  unfold spec_l1Cur_surePile_f
  obtain ⟨v1, c1, e1, a1, b1, h1, q1⟩ := pick_is k h (by omega) 5
  obtain ⟨b, rfl⟩ := Int.eq_ofNat_of_zero_le a1
  rw [ceta, e1]
  simp only [Option.bind_some]
  obtain ⟨c', l', e3, h3, d3, l3⟩ := piS_loop k (((b : Int), ()), (c1, ())) b (by omega) rfl (2 * (1 + b)) k (m + 2) c1 [] h1 (by omega) (by omega) (by simp) (by simp)
  refine ⟨l', c', ?_, h3.mono (by omega), d3, by omega, by omega⟩
  rw [show spec_l1Cur_surePile_l1 k (((b : Int), ()), (c1, ())) (c1.1, c1.2.1, c1.2.2.1, ()) [] 0 = iter k (piSF k (((b : Int), ()), (c1, ()))) (c1, [], (([] : List Int).length : Int), ()) from rfl, e3]
  rfl
theorem pileD_is (k : Nat) (hk : 100 ≤ k) {m : Int} {c : CurT} (h : Cur m c) (hm : m ≤ 999999999998000) :
    ∃ l c', spec_l1Cur_pile_f k c = some ((l, ()), (c', ())) ∧ Cur (m + 60) c' ∧ l.length ≤ 11 := by
  unfold spec_l1Cur_pile_f
  obtain ⟨l, c1, e1, h1, d1, l1, l2⟩ := surePile_is k hk h (by omega)
  obtain ⟨v2, c2, e2, a2, b2, h2, q2⟩ := pick_is k h1 (by omega) 14
  obtain ⟨v3, c3, e3, a3, h3, q3⟩ := among_is k h2 (by omega) [(-1), 0, 1, 9, 4611686018427387904] (by decide)
  rw [ceta, e1]
  simp only [Option.bind_some]
  rw [ceta, e2]
  simp only [Option.bind_some]
  rw [ceta, e3]
  simp only [Option.bind_some]
  cases h5 : v2 == 0 with
  | true => exact ⟨[], c2, rfl, h2.mono (by omega), by simp⟩
  | false =>
    cases h6 : v2 == 1 with
    | true =>
      simp only [cond_false, cond_true]
      rw [chk_dec (by omega)]
      exact ⟨_, c3, rfl, h3.mono (by omega), by rw [setI_len]; omega⟩
    | false =>
      cases h7 : v2 == 2 with
      | true =>
        simp only [cond_false, cond_true]
        rw [chk_dec (by simp; omega)]
        exact ⟨_, c2, rfl, h2.mono (by omega), by simp; omega⟩
      | false => exact ⟨l, c2, rfl, h2.mono (by omega), by omega⟩
theorem drawMB_is (k : Nat) (hk : 100 ≤ k) (l : List Int) (h : ∀ x ∈ l, 0 ≤ x ∧ x ≤ 255) : ∃ p m, spec_DrawMatchedBehind_f k l = some ((p, m, ()), ()) ∧ p.length ≤ 11 := by
  unfold spec_DrawMatchedBehind_f
  obtain ⟨p, c1, e1, h1, l1⟩ := pileD_is k hk (cur0 h) (by omega)
  obtain ⟨v2, c2, e2, a2, b2, h2, q2⟩ := pick_is k h1 (by omega) (iw (((List.length p : Nat) : Int) + 3))
  rw [e1]
  simp only [Option.bind_some]
  rw [ceta, e2]
  exact ⟨p, _, rfl, l1⟩
theorem drawPP_is (k : Nat) (hk : 1000 ≤ k) (l : List Int) (h : ∀ x ∈ l, 0 ≤ x ∧ x ≤ 255) : ∃ s : List UInt8, spec_DrawParsePile_f k l = some ((lit s, ()), ()) ∧ s.length ≤ 40 := by
  unfold spec_DrawParsePile_f
  obtain ⟨p, c1, e1, h1, d1, l1, l2⟩ := surePile_is k (by omega) (cur0 h) (by omega)
  rw [e1]
  simp only [Option.bind_some]
  rw [piText_is k hk p (by omega) d1]
  simp only [Option.bind_some]
  obtain ⟨b, c2, e2, h2, q2⟩ := one_is k h1 (by omega) 3
  rw [ceta, e2]
  simp only [Option.bind_some]
  cases b with
  | false => exact ⟨_, rfl, by rw [ptx_len]; omega⟩
  | true =>
    obtain ⟨s', c', e3, l3⟩ := spoilt_is k (by omega) h2 (by omega) (lit [48, 49, 50, 51, 120]) (lit (ptx p)) (by rw [lit_size]; decide) (by rw [lit_size]; decide) (by rw [lit_size, ptx_len]; omega)
    rw [lit_size, ptx_len] at l3
    simp only [cond_true]
    rw [ceta, e3]
    exact ⟨s'.data.toList, by rw [lit_of]; rfl, by rw [list_size]; omega⟩

/-! Facts of piles: waits and loose socks, turned piles, named piles. -/
theorem rowY_succ (n : Nat) (f : Nat → Int) : rowY (n + 1) f = rowY n f ++ [f n] := by unfold rowY; rw [List.range_succ, List.map_append]; rfl
theorem sumY_succ (n : Nat) (f : Nat → Int) : (rowY (n + 1) f).sum = (rowY n f).sum + f n := by
  rw [rowY_succ, List.sum_append]; simp
theorem sumY_add (f g : Nat → Int) : ∀ n, (rowY n (fun x => f x + g x)).sum = (rowY n f).sum + (rowY n g).sum
  | 0 => by simp [rowY]
  | n + 1 => by rw [sumY_succ, sumY_succ, sumY_succ, sumY_add f g n]; omega
theorem sumY_sel (A : Nat → Bool) : ∀ n, (rowY n (fun x => if A x = true then 1 else 0)).sum = (((selN A n).length : Nat) : Int)
  | 0 => rfl
  | n + 1 => by
    have h : selN A (n + 1) = bif A n then selN A n ++ [(n : Int)] else selN A n := rfl
    rw [sumY_succ, sumY_sel A n, h]
    cases A n <;> simp
def gW (p : List Int) (i x : Nat) : Int :=
  if (p.take i).count (x : Int) = 0 then 0 else if (p.take i).count (x : Int) = 1 then (i : Int) - ((fI p (x : Int) : Nat) : Int) else ((sI p (x : Int) : Nat) : Int) - ((fI p (x : Int) : Nat) : Int)
section
variable {n : Nat} {p : List Int} (G : PlG n p)
include G
theorem gW_step (i : Nat) (hi : i < 2 * n) (x : Nat) : gW p (i + 1) x = gW p i x + if cntP (p.take (i + 1)) 1 x = true then 1 else 0 := by
  have hst := pl_step G i hi (x : Int)
  have h2 := pl_take_le G (i + 1) (x : Int)
  have hcP : (cntP (p.take (i + 1)) 1 x = true) ↔ (p.take (i + 1)).count (x : Int) = 1 := by
    unfold cntP
    rw [decide_eq_true_eq]; omega
  unfold gW
  by_cases hx : rd p (i : Int) = (x : Int)
  · rw [if_pos hx] at hst
    obtain ⟨m1, m2⟩ := mt_count G i hi
    rw [hx] at m1 m2
    cases hm : mt p i with
    | true =>
      have hc := m1.1 hm
      have hs := sec_at G i hi hm
      rw [hx] at hs
      rw [if_neg (by omega), if_neg (by omega), if_neg (by omega), if_pos hc, if_neg (by rw [hcP]; omega), hs.2]
      omega
    | false =>
      have hc := m2.1 hm
      have hs := fst_at G i hi hm
      rw [hx] at hs
      rw [if_neg (by omega), if_pos (by omega), if_pos hc, if_pos (by rw [hcP]; omega), hs]
      omega
  · rw [if_neg hx] at hst
    rw [show (p.take (i + 1)).count (x : Int) = (p.take i).count (x : Int) from hst] at *
    by_cases h0 : (p.take i).count (x : Int) = 0
    · have hc : ¬ cntP (p.take (i + 1)) 1 x = true := by rw [hcP]; omega
      rw [if_pos h0, if_pos h0, if_neg hc]; first | done | omega
    · rw [if_neg h0, if_neg h0]
      by_cases h1 : (p.take i).count (x : Int) = 1
      · have hc : cntP (p.take (i + 1)) 1 x = true := by rw [hcP]; exact h1
        rw [if_pos h1, if_pos h1, if_pos hc]; first | done | omega
      · have hc : ¬ cntP (p.take (i + 1)) 1 x = true := by rw [hcP]; exact h1
        rw [if_neg h1, if_neg h1, if_neg hc]; first | done | omega
theorem loose_sum : ∀ i : Nat, i ≤ 2 * n → (hL p i).sum = (rowY n (gW p i)).sum
  | 0, _ => by
    have : rowY n (gW p 0) = rowY n (fun _ => 0) := rowY_congr fun i _ => by unfold gW; simp
    rw [this, ← rep_rowY]
    have h0 : ∀ m : Nat, (List.replicate m (0 : Int)).sum = 0 := fun m => by
      induction m with
      | zero => rfl
      | succ m ih => rw [List.replicate_succ, List.sum_cons, ih]; rfl
    rw [h0]; rfl
  | i + 1, hi => by
    have ih := loose_sum i (by omega)
    rw [hL_succ, List.sum_append, ih, (hg_is G (i + 1) hi).1]
    have : rowY n (gW p (i + 1)) = rowY n (fun x => gW p i x + if cntP (p.take (i + 1)) 1 x = true then 1 else 0) := rowY_congr fun x _ => gW_step G i (by omega) x
    rw [this, sumY_add, sumY_sel]
    simp
theorem waits_sum : (rowY n (wtF p)).sum + (n : Int) = (hL p (2 * n)).sum := by
  rw [loose_sum G (2 * n) (Nat.le_refl _)]
  have h1 : rowY n (gW p (2 * n)) = rowY n (fun x => wtF p x + (fun _ => (1 : Int)) x) := rowY_congr fun x hx => by
    show _ = wtF p x + 1
    have hc : (p.take (2 * n)).count (x : Int) = 2 := by rw [← G.len, List.take_length, G.cnt x hx]
    unfold gW wtF
    rw [hc, if_neg (by omega), if_neg (by omega)]
    omega
  have h2 : ∀ m : Nat, (rowY m (fun _ => (1 : Int))).sum = (m : Int) := fun m => by
    induction m with
    | zero => rfl
    | succ m ih => rw [sumY_succ, ih]; omega
  rw [h1, sumY_add, h2]
/-! ### Turned -/
theorem rev_g : PlG n p.reverse := ⟨by rw [List.length_reverse]; exact G.len, G.n1, G.n8, fun x hx => G.inn x (List.mem_reverse.1 hx), fun i hi => by rw [List.count_reverse]; exact G.cnt i hi⟩
theorem rev_hg (i : Nat) (hi : i ≤ 2 * n) : hg p.reverse i = hg p (2 * n - i) := by
  rw [(hg_is (rev_g G) i hi).1, (hg_is G (2 * n - i) (by omega)).1]
  congr 1
  refine selN_len_eq n fun x hx => ?_
  unfold cntP
  have h1 : (p.reverse.take i).count (x : Int) = (p.drop (2 * n - i)).count (x : Int) := by
    rw [List.take_reverse, List.count_reverse, G.len]
  have h2 : p.count (x : Int) = (p.take (2 * n - i)).count (x : Int) + (p.drop (2 * n - i)).count (x : Int) := by
    rw [← List.count_append, List.take_append_drop]
  rw [G.cnt x hx] at h2
  rw [h1, decide_eq_decide]
  omega
theorem rev_most : (mxP p.reverse (2 * n + 1)).1 = (mxP p (2 * n + 1)).1 := by
  obtain ⟨a, a1, a2, _, a4⟩ := mxP_is p (2 * n)
  obtain ⟨b, b1, b2, _, b4⟩ := mxP_is p.reverse (2 * n)
  rw [a2, b2]
  show hg p.reverse b = hg p a
  have h1 := a4 (2 * n - b) (by omega)
  have h2 := b4 (2 * n - a) (by omega)
  rw [rev_hg G b (by omega)] at *
  rw [rev_hg G (2 * n - a) (by omega), show 2 * n - (2 * n - a) = a by omega] at h2
  omega
/-! ### Named -/
theorem mt_first (x : Int) (h : x ∈ p) : mt p (fI p x) = false := by
  obtain ⟨f1, f2, f3⟩ := fI_lt G x h
  unfold mt
  rw [f2]; exact decide_eq_false f3
theorem nm_lt (x : Int) (h : x ∈ p) : fr p (fI p x) < n := by
  obtain ⟨f1, f2, f3⟩ := fI_lt G x h
  have h1 := fr_succ p (fI p x)
  rw [mt_first G x h] at h1
  have h2 := fr_mono p (fI p x + 1) (2 * n - (fI p x + 1))
  rw [show fI p x + 1 + (2 * n - (fI p x + 1)) = 2 * n by omega] at h2
  have h3 := fr_hg p (2 * n)
  rw [hg_end G] at h3
  simp only [Bool.false_eq_true, if_false] at h1
  omega
theorem nm_step (x y : Int) (hx : x ∈ p) (h : fI p x < fI p y) : fr p (fI p x) < fr p (fI p y) := by
  have h1 := fr_succ p (fI p x)
  rw [mt_first G x hx] at h1
  have h2 := fr_mono p (fI p x + 1) (fI p y - (fI p x + 1))
  rw [show fI p x + 1 + (fI p y - (fI p x + 1)) = fI p y by omega] at h2
  simp only [Bool.false_eq_true, if_false] at h1
  omega
theorem nm_inj (x y : Int) (hx : x ∈ p) (hy : y ∈ p) (h : nmF p x = nmF p y) : x = y := by
  unfold nmF at h
  rcases Nat.lt_trichotomy (fI p x) (fI p y) with h1 | h1 | h1
  · have := nm_step G x y hx h1; omega
  · have a := (fI_lt G x hx).2.1
    have b := (fI_lt G y hy).2.1
    rw [h1, b] at a
    exact a.symm
  · have := nm_step G y x hy h1; omega
omit G in
theorem naL_len : (naL p).length = p.length := by simp [naL]
theorem naL_rd (i : Nat) (hi : i < 2 * n) : rd (naL p) (i : Int) = nmF p (rd p (i : Int)) := by
  have hl : i < p.length := by rw [G.len]; exact hi
  rw [rd_nat _ i (by rw [naL_len]; exact hl), rd_nat p i hl]
  simp [naL]
omit G in
theorem count_map_inj (f : Int → Int) (x : Int) : ∀ l : List Int, (∀ y ∈ l, f y = f x → y = x) → (l.map f).count (f x) = l.count x
  | [], _ => rfl
  | y :: l, h => by
    rw [List.map_cons, List.count_cons, List.count_cons, count_map_inj f x l (fun z hz => h z (List.mem_cons_of_mem _ hz))]
    congr 1
    by_cases hyx : y = x
    · rw [hyx]; simp
    · have : ¬ f y = f x := fun hc => hyx (h y List.mem_cons_self hc)
      rw [show (f y == f x) = false from by simpa using this, show (y == x) = false from by simpa using hyx]
omit G in
theorem idx_map_inj (f : Int → Int) (x : Int) : ∀ l : List Int, (∀ y ∈ l, f y = f x → y = x) → (l.map f).idxOf (f x) = l.idxOf x
  | [], _ => rfl
  | y :: l, h => by
    rw [List.map_cons, List.idxOf_cons, List.idxOf_cons, idx_map_inj f x l (fun z hz => h z (List.mem_cons_of_mem _ hz))]
    by_cases hyx : y = x
    · rw [hyx]; simp
    · have : ¬ f y = f x := fun hc => hyx (h y List.mem_cons_self hc)
      rw [show (f y == f x) = false from by simpa using this, show (y == x) = false from by simpa using hyx]
theorem naL_pl : isPl (naL p) = true := by
  have e := G.len
  have h1 := G.n1
  have h8 := G.n8
  unfold isPl
  rw [naL_len, decide_eq_true (show p.length % 2 = 0 by omega), decide_eq_true (show 1 ≤ p.length / 2 by omega), decide_eq_true (show p.length / 2 ≤ 8 by omega)]
  simp only [Bool.and_self, Bool.true_and]
  rw [okC_iff]
  intro y hy
  unfold naL at hy
  obtain ⟨x, hx, rfl⟩ := List.mem_map.1 hy
  have h2 := nm_lt G x hx
  refine ⟨by unfold nmF; omega, by unfold nmF; omega, ?_⟩
  unfold naL
  rw [count_map_inj _ x p fun y hy h => nm_inj G y x hy hx h]
  exact pl_count_le G x
theorem naL_mt (i : Nat) (hi : i < 2 * n) : mt (naL p) i = mt p i := by
  have hl : i < p.length := by rw [G.len]; exact hi
  unfold mt
  rw [naL_rd G i hi, decide_eq_decide]
  unfold naL
  rw [← List.map_take]
  constructor
  · intro h
    obtain ⟨y, hy, hy2⟩ := List.mem_map.1 h
    have := nm_inj G y (rd p (i : Int)) (List.mem_of_mem_take hy) (by rw [rd_nat p i hl]; exact List.getElem_mem hl) hy2
    rw [← this]; exact hy
  · intro h
    exact List.mem_map_of_mem h
theorem naL_sh : shL (naL p) (2 * n) = shL p (2 * n) := by
  unfold shL
  exact List.map_congr_left fun i hi => by rw [naL_mt G i (List.mem_range.1 hi)]
theorem naL_fr : ∀ i : Nat, i ≤ 2 * n → fr (naL p) i = fr p i
  | 0, _ => rfl
  | i + 1, hi => by rw [fr_succ, fr_succ, naL_fr i (by omega), naL_mt G i (by omega)]
theorem naL_na : naL (naL p) = naL p := by
  have h : ∀ x ∈ p, (nmF (naL p) ∘ nmF p) x = nmF p x := fun x hx => by
    show ((fr (naL p) ((naL p).idxOf (nmF p x)) : Nat) : Int) = ((fr p (p.idxOf x) : Nat) : Int)
    have h1 : (naL p).idxOf (nmF p x) = p.idxOf x := by
      unfold naL
      exact idx_map_inj _ x p fun y hy h => nm_inj G y x hy hx h
    have h2 := (fI_lt G x hx).1
    unfold fI at h2
    rw [h1, naL_fr G _ (by omega)]
  conv => lhs; unfold naL
  rw [show List.map (nmF p) p = naL p from rfl]
  show (naL p).map (nmF (naL p)) = naL p
  conv => lhs; arg 2; unfold naL
  rw [List.map_map, List.map_congr_left h]; rfl
omit G in
theorem fr_onto : ∀ i : Nat, i ≤ 2 * n → ∀ v : Nat, v < fr p i → ∃ j, j < i ∧ mt p j = false ∧ fr p j = v
  | 0, _, v, h => by simp [fr] at h
  | i + 1, hi, v, h => by
    rw [fr_succ] at h
    by_cases hv : v < fr p i
    · obtain ⟨j, h1, h2⟩ := fr_onto i (by omega) v hv
      exact ⟨j, by omega, h2⟩
    · cases hm : mt p i with
      | true => rw [hm] at h; simp at h; omega
      | false =>
        rw [hm] at h
        simp only [Bool.false_eq_true, if_false] at h
        exact ⟨i, by omega, hm, by omega⟩
end
theorem zb_of : ∀ a b : List Int, a.length = b.length → (∀ i : Nat, i < a.length → (∀ j : Nat, j < i → rd a (j : Int) = rd b (j : Int)) → rd a (i : Int) ≤ rd b (i : Int)) → zb a b = true
  | [], _, _, _ => by simp [zb]
  | x :: a, [], h, _ => by simp at h
  | x :: a, y :: b, h, hc => by
    have h0 := hc 0 (by simp) (fun j hj => by omega)
    have r0 : ∀ (z : Int) (l : List Int), rd (z :: l) ((0 : Nat) : Int) = z := fun z l => rfl
    have rs : ∀ (z : Int) (l : List Int) (i : Nat), rd (z :: l) ((i + 1 : Nat) : Int) = rd l (i : Int) := fun z l i => rfl
    rw [r0, r0] at h0
    unfold zb
    by_cases hxy : x = y
    · rw [if_pos hxy]
      refine zb_of a b (by simpa using h) fun i hi hj => ?_
      have := hc (i + 1) (by simpa using hi) fun j hj2 => by
        cases j with
        | zero => rw [r0, r0, hxy]
        | succ j => rw [rs, rs]; exact hj j (by omega)
      rw [rs, rs] at this
      exact this
    · rw [if_neg hxy]; exact decide_eq_true (by omega)
theorem naL_before {n : Nat} {p : List Int} (G : PlG n p) : zb (naL p) p = true := by
  refine zb_of _ _ naL_len fun i hi hj => ?_
  rw [naL_len, G.len] at hi
  have hl : i < p.length := by rw [G.len]; exact hi
  rw [naL_rd G i hi]
  cases hm : mt p i with
  | true =>
    have hmem : rd p (i : Int) ∈ p.take i := by unfold mt at hm; exact of_decide_eq_true hm
    obtain ⟨j, hj1, hj2⟩ := List.mem_take_iff_getElem.1 hmem
    have hjr : rd p (j : Int) = rd p (i : Int) := by rw [rd_nat p j (by omega)]; exact hj2
    have := hj j (by omega)
    rw [naL_rd G j (by omega), hjr] at this
    omega
  | false =>
    have h1 : nmF p (rd p (i : Int)) = ((fr p i : Nat) : Int) := by unfold nmF; rw [fst_at G i hi hm]
    rw [h1]
    obtain ⟨x, hx, hxn⟩ := pl_rd G i hi
    rw [hx]
    rcases Nat.lt_or_ge x (fr p i) with h2 | h2
    · exfalso
      obtain ⟨j, j1, j2, j3⟩ := fr_onto (n := n) (p := p) i (by omega) x h2
      have h3 : nmF p (rd p (j : Int)) = (x : Int) := by unfold nmF; rw [fst_at G j (by omega) j2, j3]
      have h4 := hj j j1
      rw [naL_rd G j (by omega), h3] at h4
      have : rd p (i : Int) ∈ p.take i := by
        rw [hx, h4, rd_nat p j (by omega)]
        exact List.mem_take_iff_getElem.2 ⟨j, by omega, rfl⟩
      unfold mt at hm
      exact (of_decide_eq_false hm) this
    · omega

/-! The law FnPilesLoose. -/
theorem bne_notP {x y : Int} (h : x = y) : (x != y) = false := by simp [h]
section
variable {n : Nat} {p : List Int} (G : PlG n p)
include G
theorem isShape_is (k : Nat) (hk : 1000 ≤ k) : impl_IsShape_f k (lit (shL p (2 * n))) = some ((true, ()), ()) := by
  have h1 := G.n1
  have h8 := G.n8
  have hz : (lit (shL p (2 * n))).size = 2 * n := by rw [lit_size, shL_len]
  unfold impl_IsShape_f impl_isPilePairs_f
  rw [hz, plmod, pldiv _ (by omega), within_is]
  rw [decide_eq_true (show 2 * n % 2 = 0 by omega), show 2 * n / 2 = n by omega, decide_eq_true (show (1 : Int) ≤ (n : Int) by omega), decide_eq_true (show (n : Int) ≤ 8 by omega)]
  simp only [Bool.not_true, cond_false, Option.bind_some, Bool.and_self]
  have ht : strings_Trim_f k (lit (shL p (2 * n))) (lit [43, 45]) = some ((lit (Lib.trimS (shL p (2 * n)) [43, 45]), ()), ()) := by
    unfold strings_Trim_f trimL
    rw [decide_eq_true (show (lit (shL p (2 * n))).size ≤ 9223372036854775807 by omega), lit_list, show decide ((lit [43, 45]).size < 4294967281) = true by rw [lit_size]; decide]
    rfl
  have hn : Lib.trimS (shL p (2 * n)) [43, 45] = [] := by
    rw [trimS_nil]
    intro c hc
    unfold shL at hc
    obtain ⟨i, _, rfl⟩ := List.mem_map.1 hc
    cases mt p i <;> decide
  rw [ht, hn]
  simp only [Option.bind_some]
  rw [show (!((lit []).toList == ByteArray.empty.toList)) = false by rw [Go.ByteArray.toList_eq, Go.ByteArray.toList_eq, lit_list]; rfl]
  simp only [met_inl, cond_false]
  rw [heights_is k hk G]
  simp only [Option.bind_some]
  have hlen := hL_len p (2 * n)
  have hm : slices_Min_int_int_f k (hL p (2 * n)) = some ((0, ()), ()) := by
    unfold slices_Min_int_int_f
    rw [decide_eq_false (by omega)]
    simp only [cond_false, met_inl]
    rw [chk_dec (by omega), show (0 : Int) = ((0 : Nat) : Int) from rfl, hL_rd p _ 0 (by omega)]
    have h9 : slices_Min_int_int_l2 k (hL p (2 * n)) (hg p 0) 1 = some (.inl (0, ())) := by
      unfold slices_Min_int_int_l2
      refine iter_to (fun j : Nat => ((0 : Int), ((j + 1 : Nat) : Int), ())) (2 * n) _ (fun j hj rec => ?_) (fun rec => ?_) k (by omega)
      · simp only [slices_Min_int_int_l2_b]
        have hh := hg_nonneg G (j + 1) (by omega)
        rw [cond_dec, if_pos (by omega), ixk_in (by omega) (by omega), hL_rd p _ (j + 1) (by omega), iw_nat (by omega)]
        have : min2 0 (hg p (j + 1)) = 0 := by unfold min2; rw [if_neg (by omega)]
        rw [this]
      · simp only [slices_Min_int_int_l2_b]
        rw [cond_dec, if_neg (by omega)]
    rw [h9]; rfl
  rw [hm]
  simp only [Option.bind_some]
  rw [ixk_in (by omega) (by omega), hL_rd p _ (2 * n) (Nat.le_refl _), hg_end G]
  rfl
theorem pl_l3 (m : Int) (y77 : ((List Int × Int × Unit) × Unit)) (y94 : (ByteArray × Bool × Unit) × Unit) (y104 : (List Int × Bool × Unit) × Unit) (y114 : (Int × Int × Bool × Unit) × Unit) (y126 : (Int × Bool × Unit) × Unit)
    (h77 : y77.1.1 = p) (h94 : y94.1.1 = lit (shL p (2 * n))) (h104 : y104.1.1 = hL p (2 * n)) (a : Nat) (ha : a < 2 * n + 1) (h114 : y114.1.1 = hg p a ∧ y114.1.2.1 = (a : Int)) (hlt : ∀ i, i < a → hg p i < hg p a) (hle : ∀ i, i < 2 * n + 1 → hg p i ≤ hg p a)
    (h126 : y126.1.1 = ((fmP p : Nat) : Int)) :
    laws_FnPilesLoose_l3 3000 y77 y94 y104 y114 y126 (lit (shL p (2 * n)), 0) = some (.inl ()) := by
  have _h := m
  have h8 := G.n8
  have e := G.len
  have hz : (lit (shL p (2 * n))).size = 2 * n := by rw [lit_size, shL_len]
  have hlen := hL_len p (2 * n)
  obtain ⟨f1, f2, f3⟩ := fm_at G
  unfold laws_FnPilesLoose_l3
  refine iter_to (fun j : Nat => ((lit (shL p (2 * n)), j), ())) (2 * n) _ (fun j hj rec => ?_) (fun rec => ?_) 3000 (by omega)
  · simp only [laws_FnPilesLoose_l3_b]
    have hjl : j < (shL p (2 * n)).length := by rw [shL_len]; exact hj
    have hg1 := shL_get p (2 * n) j hj
    rw [List.getElem?_eq_getElem hjl] at hg1
    have hg2 := Option.some.inj hg1
    obtain ⟨r1, r2⟩ := rune_at (shL p (2 * n)) j hjl (by rw [hg2]; exact sgn_lt _)
    have hb := byte_at (shL p (2 * n)) j hjl
    rw [hg2] at hb
    have hh := hg_nonneg G j (by omega)
    have hs : hg p (j + 1) = hg p j + if mt p j = true then -1 else 1 := rfl
    rw [h77, h94, h104, h114.1, h114.2, h126, r2, hb, iw_nat (by omega), hL_rd p _ (j + 1) (by omega), hL_rd p _ j (by omega), hs]
    simp only [hz]
    rw [decide_eq_true (show j < 2 * n from hj)]
    simp only [cond_true]
    rw [chk_true rfl]
    have i1 : ∀ {α : Type} (K : Option α), ixk ((j : Nat) : Int) (2 * n) K = K := fun K => ixk_in (by omega) (by omega)
    have i2 : ∀ {α : Type} (K : Option α), ixk ((j : Nat) : Int) (hL p (2 * n)).length K = K := fun K => ixk_in (by omega) (by omega)
    have i3 : ∀ {α : Type} (K : Option α), ixk ((j + 1 : Nat) : Int) (hL p (2 * n)).length K = K := fun K => ixk_in (by omega) (by omega)
    have i4 : ∀ {α : Type} (K : Option α), ixk ((j : Nat) : Int) p.length K = K := fun K => ixk_in (by omega) (by omega)
    have hle' := hle j (by omega)
    have hcmp : ∀ {β : Type}, (cond (decide (hg p j > hg p a)) (some (.inl ((lit (shL p (2 * n)), j + 1), true, ()))) (cond (decide ((j : Int) < (a : Int))) (some (.inl ((lit (shL p (2 * n)), j + 1), (hg p j == hg p a), ()))) (some (.inl ((lit (shL p (2 * n)), j + 1), false, ())))) : Option (((ByteArray × Nat) × Bool × Unit) ⊕ β)) = some (.inl ((lit (shL p (2 * n)), j + 1), false, ())) := by
      intro β
      rw [decide_eq_false (show ¬ hg p j > hg p a by omega)]
      simp only [cond_false]
      by_cases hja : j < a
      · rw [decide_eq_true (show (j : Int) < (a : Int) by omega)]
        have := hlt j hja
        rw [show (hg p j == hg p a) = false from by rw [beq_eq_false_iff_ne]; omega]; rfl
      · rw [decide_eq_false (show ¬ (j : Int) < (a : Int) by omega)]; rfl
    simp only [i1, i2, i3, i4]
    cases hm : mt p j with
    | true =>
      rw [show (((sgn true).toNat : Int) == 43) = false from by decide, show (((sgn true).toNat : Int) == 45) = true from by decide]
      have hfj : ¬ (j : Int) < ((fmP p : Nat) : Int) := by
        intro h
        have := f3 j (by omega)
        rw [hm] at this; cases this
      have hpos : 1 ≤ hg p j := by
        have := hg_nonneg G (j + 1) (by omega)
        rw [hs, hm, if_pos rfl] at this
        omega
      simp only [cond_false, cond_true, if_true]
      rw [iw_id (by omega) (by omega), show hg p j + -1 = hg p j - 1 by omega, bne_notP (rfl : hg p j - 1 = hg p j - 1), decide_eq_false hfj]
      simp only [cond_false]
      rw [hcmp]
      simp only [met_inl, cond_false]
      rw [chk_dec (by omega), chk_dec (by omega), Int.toNat_natCast, zHas_is 3000 _ _ (by rw [List.length_take]; omega) (by rw [List.length_take]; omega)]
      simp only [Option.bind_some]
      rw [show decide (rd p (j : Int) ∈ p.take j) = mt p j from rfl, hm]
      rfl
    | false =>
      rw [show (((sgn false).toNat : Int) == 43) = true from by decide, show (((sgn false).toNat : Int) == 45) = false from by decide]
      simp only [cond_true, cond_false, Bool.false_eq_true, if_false]
      rw [iw_id (by omega) (by omega), bne_notP (rfl : hg p j + 1 = hg p j + 1)]
      simp only [cond_false]
      rw [hcmp]
      simp only [met_inl, cond_false]
      rw [chk_dec (by omega), chk_dec (by omega), Int.toNat_natCast, zHas_is 3000 _ _ (by rw [List.length_take]; omega) (by rw [List.length_take]; omega)]
      simp only [Option.bind_some]
      rw [show decide (rd p (j : Int) ∈ p.take j) = mt p j from rfl, hm]
      rfl
  · simp only [laws_FnPilesLoose_l3_b]
    simp only [hz]
    rw [decide_eq_false (by omega)]
    rfl
theorem pl_l9 (m : Nat) (hm : m ≤ 2 * n) (y77 : ((List Int × Int × Unit) × Unit)) (y83 y136 : (List Int × Bool × Unit) × Unit) (h77 : y77.1.1 = p ∧ y77.1.2.1 = (m : Int)) (h83 : y83.1.1 = selN (cntP (p.take m) 2) n) (h136 : y136.1.1.length = n) :
    laws_FnPilesLoose_l9 3000 y77 y83 y136 0 = some (.inl ()) := by
  have h8 := G.n8
  have e := G.len
  unfold laws_FnPilesLoose_l9
  refine iter_to (fun j : Nat => ((j : Int), ())) n _ (fun j hj rec => ?_) (fun rec => ?_) 3000 (by omega)
  · simp only [laws_FnPilesLoose_l9_b]
    have hl10 : laws_FnPilesLoose_l10 3000 y77 (j : Int) 0 0 = some (.inl ((((p.take m).count (j : Int) : Nat) : Int), ())) := by
      unfold laws_FnPilesLoose_l10
      have hlt : (p.take m).length = m := by rw [List.length_take]; omega
      rw [show ((0 : Int), (0 : Int), ()) = (fun i : Nat => (((((p.take m).take i).count (j : Int) : Nat) : Int), (i : Int), ())) 0 from by simp]
      refine iter_to (fun i : Nat => (((((p.take m).take i).count (j : Int) : Nat) : Int), (i : Int), ())) m _ (fun i hi rec => ?_) (fun rec => ?_) 3000 (by omega)
      · simp only [laws_FnPilesLoose_l10_b]
        rw [h77.1, h77.2, Int.toNat_natCast]
        have hle : ((p.take m).take i).count (j : Int) ≤ 40 := Nat.le_trans List.count_le_length (by rw [List.length_take, hlt]; omega)
        rw [cond_dec, if_pos (by omega), ixk_in (by omega) (by omega), rd_nat _ i (by omega), iw_nat (n := i) (by omega), count_take_succ (p.take m) i (by omega)]
        by_cases hx : (p.take m)[i]'(by omega) = (j : Int)
        · rw [if_pos hx, show ((p.take m)[i]'(by omega) == (j : Int)) = true from by simpa using hx, iw_nat (by omega)]; rfl
        · rw [if_neg hx, show ((p.take m)[i]'(by omega) == (j : Int)) = false from by simpa using hx]; rfl
      · simp only [laws_FnPilesLoose_l10_b]
        rw [h77.1, h77.2, Int.toNat_natCast, cond_dec, if_neg (by omega), List.take_of_length_le (by omega)]
    have hsl := selN_len (cntP (p.take m) 2) n
    rw [cond_dec, if_pos (by rw [h136]; omega), h77.1, h77.2, chk_dec (by omega), chk_dec (by omega), hl10]
    simp only [met_inl]
    rw [h83, zHas_is 3000 _ _ (by omega) (by omega), iw_nat (by omega)]
    simp only [Option.bind_some]
    have : decide ((j : Int) ∈ selN (cntP (p.take m) 2) n) = ((((p.take m).count (j : Int) : Nat) : Int) == 2) := by
      rw [show ((((p.take m).count (j : Int) : Nat) : Int) == 2) = decide ((((p.take m).count (j : Int) : Nat) : Int) = 2) from rfl, decide_eq_decide, selN_mem]
      unfold cntP
      constructor
      · rintro ⟨i, h1, _, h3⟩
        rw [show j = i by omega]; exact of_decide_eq_true h3
      · intro h; exact ⟨j, rfl, hj, decide_eq_true h⟩
    rw [this]
    simp
  · simp only [laws_FnPilesLoose_l9_b]
    rw [cond_dec, if_neg (by rw [h136]; omega)]
end
theorem wa_in {n : Nat} {p : List Int} (G : PlG n p) : ∀ x ∈ rowY n (wtF p), 0 ≤ x ∧ x ≤ 1000 := by
  intro x hx
  unfold rowY at hx
  obtain ⟨i, hi, rfl⟩ := List.mem_map.1 hx
  have := sI_lt G i (List.mem_range.1 hi)
  have h8 := G.n8
  unfold wtF
  omega
section
variable (p : List Int)
theorem shV_ok : (shV p).1.2.1 = isPl p := by unfold shV; cases isPl p <;> rfl
theorem loV_ok : (loV p).1.2.1 = isPl p := by unfold loV; cases isPl p <;> rfl
theorem mlV_ok : (mlV p).1.2.2.1 = isPl p := by unfold mlV; cases isPl p <;> rfl
theorem fmV_ok : (fmV p).1.2.1 = isPl p := by unfold fmV; cases isPl p <;> rfl
theorem waV_ok : (waV p).1.2.1 = isPl p := by unfold waV; cases isPl p <;> rfl
theorem soV_ok : (soV p).1.2.1 = isPl p := by unfold soV; cases isPl p <;> rfl
theorem tuV_ok : (tuV p).1.2.1 = isPl p := by unfold tuV; cases isPl p <;> rfl
theorem naV_ok : (naV p).1.2.1 = isPl p := by unfold naV; cases isPl p <;> rfl
theorem pxV_ok : (pxV p).1.2.1 = isPl p := by unfold pxV; cases isPl p <;> rfl
variable (hl : p.length ≤ 40)
include hl
theorem mbV_len (m : Int) : (mbV p m).1.1.length ≤ 100 := by
  unfold mbV; split
  · exact Nat.le_trans (selN_len _ _) (by omega)
  · simp
theorem loV_len : (loV p).1.1.length ≤ 100 := by
  unfold loV; split
  · show (hL _ _).length ≤ 100; rw [hL_len]; omega
  · simp
theorem waV_len : (waV p).1.1.length ≤ 100 := by
  unfold waV; split
  · show (rowY _ _).length ≤ 100; rw [rowY_len]; omega
  · simp
theorem tuV_len : (tuV p).1.1.length ≤ 100 := by
  unfold tuV; split
  · show p.reverse.length ≤ 100; rw [List.length_reverse]; omega
  · simp
theorem naV_len : (naV p).1.1.length ≤ 100 := by
  unfold naV; split
  · show (naL p).length ≤ 100; rw [naL_len]; omega
  · simp
end
theorem ppV_len (s : List UInt8) (h : s.length ≤ 40) : (ppV s).1.1.length ≤ 100 := by
  unfold ppV; split
  · show (s.map rdc).length ≤ 100; rw [List.length_map]; omega
  · simp
theorem tl_same (s : ByteArray) : (s.toList == s.toList) = true := by simp
theorem pure_FnPilesLoose : Law laws_FnPilesLoose_f := fun l0 l1 _h0 w0 _h1 w1 => ⟨3000, by
  have hk : 1000 ≤ 3000 := by omega
  have hk2 : 2000 ≤ 3000 := by omega
  unfold laws_FnPilesLoose_f
  obtain ⟨bg, eb⟩ := big_is 3000 l0 l1
  rw [eb]
  cases bg with
  | true => rfl
  | false =>
  simp only [Option.bind_some, cond_false]
  obtain ⟨p, m, e1, hl0⟩ := drawMB_is 3000 (by omega) l0 (byte_in w0)
  obtain ⟨s, e2, hs⟩ := drawPP_is 3000 hk l1 (byte_in w1)
  have hl : p.length ≤ 40 := by omega
  have q1 := mbV_len p hl m
  have q2 := loV_len p hl
  have q3 := waV_len p hl
  have q4 := tuV_len p hl
  have q5 := naV_len p hl
  rw [e1]
  simp only [Option.bind_some]
  rw [implMb_is 3000 hk p hl, specMb_is 3000 hk p hl, implSh_is 3000 hk p hl, specSh_is 3000 hk p hl, implLo_is 3000 hk p hl, specLo_is 3000 hk p hl, implMl_is 3000 hk p hl, specMl_is 3000 hk p hl, implFm_is 3000 hk p hl, specFm_is 3000 hk p hl, implWa2_is 3000 hk p hl, specWa2_is 3000 hk p hl, implSl_is 3000 hk p hl, specSl_is 3000 hk p hl, implTu_is 3000 hk p hl, specTu_is 3000 hk p hl, implNa_is 3000 hk p hl, specNa_is 3000 hk p hl, implPx_is 3000 hk p hl, specPx_is 3000 hk p hl]
  simp only [Option.bind_some]
  refine met_goM (false, ()) ?_ ?_
  · rw [zSameW_self 3000 _ (by omega) (by omega), zSameW_self 3000 _ (by omega) (by omega), zSameW_self 3000 _ (by omega) (by omega), zSameW_self 3000 _ (by omega) (by omega), zSameW_self 3000 _ (by omega) (by omega), implIP_is 3000 hk p hl, specIP_is 3000 hk p hl, tl_same, tl_same, shV_ok, loV_ok, mlV_ok, fmV_ok, waV_ok, soV_ok, tuV_ok, naV_ok, pxV_ok]
    simp only [Option.bind_some, beq_self_eq_true, Bool.not_true, cond_false, bne_self_eq_false]
    unfold mbV
    cases isPl p <;> cases (decide (0 ≤ m) && decide (m ≤ (p.length : Int))) <;> rfl
  simp only [cond_false]
  refine met_goM () ?_ ?_
  · rw [shV_ok]
    cases h : isPl p with
    | false => rfl
    | true =>
      have G := isPl_g h
      have e := G.len
      have h8 := G.n8
      have h1 := G.n1
      generalize hn : p.length / 2 = n at *
      obtain ⟨a, a1, a2, a3, a4⟩ := mxP_is p (2 * n)
      obtain ⟨f1, f2, f3⟩ := fm_at G
      have v1 : shV p = ((lit (shL p (2 * n)), true, ()), ()) := by unfold shV; rw [if_pos h, e]
      have v2 : loV p = ((hL p (2 * n), true, ()), ()) := by unfold loV; rw [if_pos h, e]
      have v3 : mlV p = ((hg p a, (a : Int), true, ()), ()) := by unfold mlV; rw [if_pos h, e, a2]
      have v4 : fmV p = ((((fmP p : Nat) : Int), true, ()), ()) := by unfold fmV; rw [if_pos h]
      have v5 : waV p = ((rowY n (wtF p), true, ()), ()) := by unfold waV; rw [if_pos h, hn]
      have v6 : soV p = (((hL p (2 * n)).sum, true, ()), ()) := by unfold soV; rw [if_pos h, e]
      have v7 : tuV p = ((p.reverse, true, ()), ()) := by unfold tuV; rw [if_pos h]
      have v8 : naV p = ((naL p, true, ()), ()) := by unfold naV; rw [if_pos h]
      have v9 : pxV p = ((lit (ptx p), true, ()), ()) := by unfold pxV; rw [if_pos h]
      rw [v1, v2, v3, v4, v5, v6, v7, v8, v9]
      simp only [cond_true]
      have hlen := hL_len p (2 * n)
      have hz : (lit (shL p (2 * n))).size = 2 * n := by rw [lit_size, shL_len]
      have hws := waits_sum G
      have hsb : 0 ≤ (hL p (2 * n)).sum ∧ (hL p (2 * n)).sum ≤ 1000000 := by
        have hr : ∀ l : List Int, (∀ x ∈ l, 0 ≤ x ∧ x ≤ 1000) → 0 ≤ l.sum ∧ l.sum ≤ 1000 * (l.length : Int) := by
          intro l
          induction l with
          | nil => intro _; simp
          | cons b l ih =>
            intro h
            have hb := h b List.mem_cons_self
            have := ih (fun x hx => h x (List.mem_cons_of_mem _ hx))
            rw [List.sum_cons, List.length_cons]
            omega
        have := hr (hL p (2 * n)) (fun x hx => by
          unfold hL at hx
          obtain ⟨i, hi, rfl⟩ := List.mem_map.1 hx
          rw [List.mem_range] at hi
          have := hg_nonneg G i (by omega)
          omega)
        rw [hlen] at this
        omega
      refine met_goM (false, ()) ?_ ?_
      · have hfl : fmP p < (shL p (2 * n)).length := by rw [shL_len]; exact f1
        have hfb := byte_at (shL p (2 * n)) (fmP p) hfl
        have hg1 := shL_get p (2 * n) (fmP p) f1
        rw [List.getElem?_eq_getElem hfl] at hg1
        rw [Option.some.inj hg1, f2] at hfb
        rw [hz, e, bne_notP (show ((2 * n : Nat) : Int) = ((2 * n : Nat) : Int) from rfl), cond_false, iw_nat (by omega), hlen, bne_notP (show ((2 * n + 1 : Nat) : Int) = ((2 * n + 1 : Nat) : Int) from rfl), cond_false, chk_dec (by omega), show (0 : Int) = ((0 : Nat) : Int) from rfl, hL_rd p _ 0 (by omega), bne_notP (show hg p 0 = ((0 : Nat) : Int) from rfl), cond_false, ixk_in (by omega) (by omega), hL_rd p _ (2 * n) (Nat.le_refl _), bne_notP (show hg p (2 * n) = ((0 : Nat) : Int) from hg_end G), cond_false, ixk_in (by omega) (by omega), hL_rd p _ a (by omega), bne_notP (rfl : hg p a = hg p a), cond_false]
        have hzs : laws_zSum_f 3000 (hL p (2 * n)) = some (((hL p (2 * n)).sum, ()), ()) := by rw [← hL_sum G]; exact zSum_is 3000 _ (by omega) (by omega)
        have hzw : laws_zSum_f 3000 (rowY n (wtF p)) = some (((rowY n (wtF p)).sum, ()), ()) := by
          have : sumW (rowY n (wtF p)) = (rowY n (wtF p)).sum := by
            unfold sumW
            rw [sumW_sP 0 (by omega) (wa_in G) (by rw [rowY_len]; omega)]; omega
          rw [← this]; exact zSum_is 3000 _ (by rw [rowY_len]; omega) (by rw [rowY_len]; omega)
        rw [hzs]
        simp only [Option.bind_some]
        rw [bne_notP (rfl : (hL p (2 * n)).sum = (hL p (2 * n)).sum), cond_false, isShape_is G 3000 hk]
        simp only [Option.bind_some, Bool.not_true, cond_false]
        rw [ixk_in (by omega) (by omega), hfb, show (((sgn true).toNat : Int) != 45) = false from by decide, cond_false, pldiv _ (by omega), rowY_len, show 2 * n / 2 = n by omega, bne_notP (rfl : ((n : Nat) : Int) = ((n : Nat) : Int)), cond_false, hzw]
        simp only [Option.bind_some]
        rw [iw_id (by omega) (by omega), bne_notP (by omega)]
      · simp only [cond_false]
        rw [pl_l3 G m _ _ _ _ _ rfl rfl rfl a (by omega) ⟨rfl, rfl⟩ a3 a4 rfl]
        simp only [met_inl]
        have hrl : p.reverse.length ≤ 40 := by rw [List.length_reverse]; exact hl
        have hnl : (naL p).length ≤ 40 := by rw [naL_len]; exact hl
        rw [implTu_is 3000 hk _ hrl, implMl_is 3000 hk _ hrl, implSh_is 3000 hk _ hnl, implPP_is 3000 hk2 _ (by rw [ptx_len]; omega), implNa_is 3000 hk _ hnl]
        simp only [Option.bind_some]
        have hrp := isPl_of (rev_g G)
        have hnp := naL_pl G
        have u1 : tuV p.reverse = ((p, true, ()), ()) := by unfold tuV; rw [if_pos hrp, List.reverse_reverse]
        have u2 : (mlV p.reverse).1.1 = hg p a := by
          unfold mlV
          rw [if_pos hrp, List.length_reverse, e]
          have := rev_most G
          rw [a2] at this
          exact this
        have u3 : shV (naL p) = ((lit (shL p (2 * n)), true, ()), ()) := by unfold shV; rw [if_pos hnp, naL_len, e, naL_sh G]
        have u4 : naV (naL p) = ((naL p, true, ()), ()) := by unfold naV; rw [if_pos hnp, naL_na G]
        rw [u1, u2, mlV_ok, hrp, u3, pp_px h, u4]
        simp only [Bool.not_true, cond_false]
        rw [zSameW_self 3000 _ (by omega) (by omega), zSameW_self 3000 (naL p) (by omega) (by omega), zBefore_is 3000 (by omega) _ _ (by rw [naL_len]; omega) (by omega), naL_before G, tl_same, bne_notP (rfl : hg p a = hg p a)]
        rfl
  refine met_goM () ?_ ?_
  · cases hc : (mbV p m).1.2.1 with
    | false => rfl
    | true =>
      have hcc : (isPl p && (decide (0 ≤ m) && decide (m ≤ (p.length : Int)))) = true := by
        unfold mbV at hc
        by_cases hb : (isPl p && (decide (0 ≤ m) && decide (m ≤ (p.length : Int)))) = true
        · exact hb
        · rw [if_neg hb] at hc; cases hc
      have hcd := hcc
      simp only [Bool.and_eq_true, decide_eq_true_eq] at hcd
      have h := hcd.1
      have G := isPl_g h
      have e := G.len
      have h8 := G.n8
      obtain ⟨mm, rfl⟩ := Int.eq_ofNat_of_zero_le hcd.2.1
      generalize hn : p.length / 2 = n at *
      have v0 : mbV p (mm : Int) = ((selN (cntP (p.take mm) 2) n, true, ()), ()) := by unfold mbV; rw [if_pos hcc, hn]; rfl
      have v2 : loV p = ((hL p (2 * n), true, ()), ()) := by unfold loV; rw [if_pos h, e]
      have v5 : waV p = ((rowY n (wtF p), true, ()), ()) := by unfold waV; rw [if_pos h, hn]
      rw [v0, v2, v5]
      simp only [cond_true]
      have hsl := selN_len (cntP (p.take mm) 2) n
      have hg2 := (hg_is G mm (by omega)).2
      have hgn := hg_nonneg G mm (by omega)
      refine met_goM (false, ()) ?_ ?_
      · rw [zRises_is 3000 _ (by omega) (by omega), selN_ris]
        simp only [Option.bind_some, Bool.not_true, cond_false]
        rw [ixk_in (by omega) (by rw [hL_len]; omega), hL_rd p _ mm (by omega), iw_id (x := 2 * (((selN (cntP (p.take mm) 2) n).length : Nat) : Int)) (by omega) (by omega), iw_id (by omega) (by omega), bne_notP (by omega)]
      · simp only [cond_false]
        rw [pl_l9 G mm (by omega) _ _ _ ⟨rfl, rfl⟩ rfl (rowY_len _ _)]
        rfl
  rw [e2]
  simp only [Option.bind_some]
  rw [implPP_is 3000 hk2 s hs, specPP_is 3000 hk2 s hs]
  simp only [Option.bind_some]
  have q6 := ppV_len s hs
  refine met_goM ((ppV s).1.1, false, ()) ?_ ?_
  · rw [zSameW_self 3000 _ (by omega) (by omega)]
    simp
  simp only [cond_false]
  cases hc : (ppV s).1.2.1 with
  | false => rfl
  | true =>
    obtain ⟨b1, b2, b3⟩ := px_pp hc
    simp only [cond_true]
    rw [implPx_is 3000 hk _ (by omega)]
    have eB : pxV (ppV s).1.1 = ((lit s, true, ()), ()) := by unfold pxV; rw [if_pos b1, b2]
    rw [eB]
    simp⟩

end Go.Proofs.YtjdglbkjdfidoaaGreatDoorV.Law
