/- The law FnSocksDrawn as a plain statement of plain functions: it answers true, whatever comes in. No condition. -/
import Derived.Test.YtiagjdlnofalfaaGreatDoorVQFnSocksDrawnx1
namespace Go.Proofs.YtiagjdlnofalfaaGreatDoorV.Law
set_option linter.unusedVariables false
set_option linter.unusedSimpArgs false
open Go.Proofs.YtiagjdlnofalfaaGreatDoorV
/-! ### Draws with just so many pairs, in the reference's way -/
def plP (V a d : Nat) : Nat := (a / V + d) * V + (a % V + d / 2)
def ptP (V : Nat) (w : Nat → Nat) (a n t : Nat) : Nat := sumN (fun d => if a % V + d / 2 < V ∧ t = plP V a d then w a else 0) n
def upP (V c : Nat) (w : Nat → Nat) (n t : Nat) : Nat := sumN (fun a => ptP V w a (c + 1) t) n
theorem plP_iff {V t a d : Nat} (hV : 0 < V) : (a % V + d / 2 < V ∧ t = plP V a d) ↔ (d ≤ t / V ∧ d / 2 ≤ t % V) ∧ a = (t / V - d) * V + (t % V - d / 2) := by
  have htt : t / V * V + t % V = t := by rw [Nat.mul_comm]; exact Nat.div_add_mod t V
  have haa : a / V * V + a % V = a := by rw [Nat.mul_comm]; exact Nat.div_add_mod a V
  have hq := Nat.mod_lt t hV
  constructor
  · rintro ⟨h1, h2⟩
    have h3 := idx_div (p := a / V + d) (q := a % V + d / 2) (V := V) h1
    rw [show (a / V + d) * V + (a % V + d / 2) = t from h2.symm] at h3
    refine ⟨⟨by rw [h3.1]; exact Nat.le_add_left _ _, by rw [h3.2]; exact Nat.le_add_left _ _⟩, ?_⟩
    rw [h3.1, h3.2, Nat.add_sub_cancel, Nat.add_sub_cancel, haa]
  · rintro ⟨⟨h1, h2⟩, h3⟩
    have h4 := idx_div (p := t / V - d) (q := t % V - d / 2) (V := V) (by omega)
    rw [← h3] at h4
    refine ⟨by omega, ?_⟩
    unfold plP
    rw [h4.1, h4.2, show t / V - d + d = t / V by omega, show t % V - d / 2 + d / 2 = t % V by omega, htt]
theorem upP_is (V A c : Nat) (hV : 0 < V) (N : List Nat) (t : Nat) (ht : t < A * V) : upP V c (fun a => W ones (fun d : Nat => d / 2) N ((a / V : Nat) : Int) ((a % V : Nat) : Int)) (A * V) t = W ones (fun d : Nat => d / 2) (N ++ [c]) ((t / V : Nat) : Int) ((t % V : Nat) : Int) := by
  unfold upP ptP
  rw [sumN_comm, W_snoc]
  refine sumN_congr _ fun d _ => ?_
  have e1 : ones c d = 1 := rfl
  rw [e1, Nat.one_mul]
  dsimp only
  have htt : t / V * V + t % V = t := by rw [Nat.mul_comm]; exact Nat.div_add_mod t V
  have hq := Nat.mod_lt t hV
  by_cases h : d ≤ t / V ∧ d / 2 ≤ t % V
  · have hlt : (t / V - d) * V + (t % V - d / 2) < A * V := by
      have : (t / V - d) * V ≤ t / V * V := Nat.mul_le_mul_right _ (by omega)
      omega
    have hc := idx_div (p := t / V - d) (q := t % V - d / 2) (V := V) (by omega)
    have key : ∀ a, (if a % V + d / 2 < V ∧ t = plP V a d then W ones (fun d : Nat => d / 2) N ((a / V : Nat) : Int) ((a % V : Nat) : Int) else 0) = if a = (t / V - d) * V + (t % V - d / 2) then W ones (fun d : Nat => d / 2) N (((t / V : Nat) : Int) - d) (((t % V : Nat) : Int) - ((d / 2 : Nat) : Int)) else 0 := fun a => by
      by_cases e : a = (t / V - d) * V + (t % V - d / 2)
      · rw [if_pos ((plP_iff hV).2 ⟨h, e⟩), if_pos e, e, hc.1, hc.2, show ((t / V - d : Nat) : Int) = ((t / V : Nat) : Int) - d by omega, show ((t % V - d / 2 : Nat) : Int) = ((t % V : Nat) : Int) - ((d / 2 : Nat) : Int) by omega]
      · rw [if_neg (fun h2 => e ((plP_iff hV).1 h2).2), if_neg e]
    rw [sumN_congr _ fun a _ => key a, sumN_one, if_pos hlt]
  · rw [W_neg ones _ _ _ _ (by omega)]
    exact sumN_zero _ fun a _ => by rw [if_neg (fun h2 => h ((plP_iff hV).1 h2).1)]
section
variable (k : Nat) (hk : 100000 ≤ k) (m p A V : Nat) (hA : A = m + 1) (hV : V = p + 1) (hm : m ≤ 160) (hp : p ≤ 80) (S : List Int) (i c : Nat) (hc : c ≤ 20) (hi : i < S.length) (hSc : rd S (i : Int) = (c : Int)) (w : Nat → Nat)
include hk hA hV hm hp hc hi hSc
theorem sp3_is (a : Nat) (ha : a < A * V) (f : Nat → Nat) (hf : ∀ t, t < A * V → f t + ptP V w a (c + 1) t ≤ 37822859361) :
    spec_soCounts_l3 k S (m : Int) (p : Int) (((p : Int), ()), ()) (row (A * V) w) (i : Int) (a : Int) (row (A * V) f) 0 = some (.inl (row (A * V) (fun t => f t + ptP V w a (c + 1) t), ())) := by
  have _hi := hi
  have hVp : 0 < V := by omega
  have hq := Nat.mod_lt a hVp
  have nn1 : (0 : Int) ≤ ((a / V : Nat) : Int) := Int.natCast_nonneg _
  have nn2 : (0 : Int) ≤ ((a % V : Nat) : Int) := Int.natCast_nonneg _
  have hpd : a / V < A := Nat.div_lt_of_lt_mul (by rw [Nat.mul_comm]; exact ha)
  have hAV : A * V ≤ 161 * 81 := Nat.mul_le_mul (by omega) (by omega)
  have eV : iw ((p : Int) + 1) = (V : Int) := by rw [iw_nat (by omega), hV]
  have ed : Int.tdiv (a : Int) (V : Int) = ((a / V : Nat) : Int) := by rw [Int.tdiv_eq_ediv_of_nonneg (by omega)]; rfl
  have em : Int.tmod (a : Int) (V : Int) = ((a % V : Nat) : Int) := by rw [Int.tmod_eq_emod_of_nonneg (by omega)]; rfl
  have hmono : ∀ j t, j ≤ c + 1 → ptP V w a j t ≤ ptP V w a (c + 1) t := fun j t hj => sumN_mono hj
  unfold spec_soCounts_l3
  rw [show row (A * V) f = row (A * V) (fun t => f t + ptP V w a 0 t) from rfl]
  refine iter_to (fun j => (row (A * V) (fun t => f t + ptP V w a j t), (j : Int), ())) (min (c + 1) (A - a / V)) _ (fun j hj rec => ?_) (fun rec => ?_) k (by omega)
  · have hstep : ∀ t, ptP V w a (j + 1) t = ptP V w a j t + (if a % V + j / 2 < V ∧ t = plP V a j then w a else 0) := fun t => rfl
    simp only [spec_soCounts_l3_b, eV, ed, em]
    rw [hSc, cond_dec, if_pos (by omega), iw_id (x := ((a / V : Nat) : Int)) (by omega) (by omega), iw_id (x := ((a / V : Nat) : Int) + (j : Int)) (by omega) (by omega), decide_eq_true (show ((a / V : Nat) : Int) + (j : Int) ≤ (m : Int) by omega), decide_eq_true (show (p : Int) ≥ 0 by omega), tdiv2, iw_id (x := ((j / 2 : Nat) : Int)) (by omega) (by omega), iw_id (x := ((a % V : Nat) : Int) + ((j / 2 : Nat) : Int)) (by omega) (by omega)]
    simp only [met_inl, cond_true]
    by_cases hlt : a % V + j / 2 < V
    · have e1 : (a / V + j) * V + V ≤ A * V := by
        have : (a / V + j + 1) * V ≤ A * V := Nat.mul_le_mul_right _ (by omega)
        rw [Nat.add_mul, Nat.one_mul] at this
        exact this
      have hpl : plP V a j < A * V := by unfold plP; omega
      have hb1 := hf (plP V a j) hpl
      have hb2 := hmono (j + 1) (plP V a j) (by omega)
      rw [hstep, if_pos ⟨hlt, rfl⟩] at hb2
      have idx : iw (iw ((((a / V : Nat) : Int) + (j : Int)) * (V : Int)) + (((a % V : Nat) : Int) + ((j / 2 : Nat) : Int))) = ((plP V a j : Nat) : Int) := by
        rw [show (((a / V : Nat) : Int) + (j : Int)) * (V : Int) = (((a / V + j) * V : Nat) : Int) by exact_mod_cast rfl]
        unfold plP at hpl ⊢
        generalize (a / V + j) * V = z at *
        rw [iw_id (x := (z : Int)) (by omega) (by omega), iw_id (by omega) (by omega)]
        omega
      rw [decide_eq_true (show ((a % V : Nat) : Int) + ((j / 2 : Nat) : Int) < (V : Int) by omega)]
      simp only [cond_true]
      rw [idx, row_get _ _ _ hpl, row_get _ _ a ha, ixk_in (by omega) (by rw [row_len]; omega), iw_id (by omega) (by omega), least_l1, if_pos (by omega)]
      simp only [Option.bind_some]
      rw [ixk_in (by omega) (by rw [row_len]; omega), show ((f (plP V a j) + ptP V w a j (plP V a j) : Nat) : Int) + (w a : Int) = ((f (plP V a j) + ptP V w a j (plP V a j) + w a : Nat) : Int) by omega, row_set]
      simp only [met_inl]
      rw [iw_nat (by omega)]
      congr 2
      refine row_congr fun t _ => ?_
      rw [hstep]
      by_cases h : t = plP V a j
      · subst h; rw [if_pos rfl, if_pos ⟨hlt, rfl⟩]; omega
      · rw [if_neg h, if_neg (fun h2 => h h2.2)]; rfl
    · rw [decide_eq_false (show ¬ (((a % V : Nat) : Int) + ((j / 2 : Nat) : Int) < (V : Int)) by omega)]
      simp only [cond_false, met_inl]
      rw [iw_nat (by omega)]
      congr 2
      refine row_congr fun t _ => ?_
      rw [hstep, if_neg (fun h2 => hlt h2.1)]; rfl
  · have hres : row (A * V) (fun t => f t + ptP V w a (min (c + 1) (A - a / V)) t) = row (A * V) (fun t => f t + ptP V w a (c + 1) t) := row_congr fun t ht => by
      congr 1
      refine (sumN_more (by omega) fun d h1 h2 => ?_).symm
      rw [if_neg]
      rintro ⟨h3, h4⟩
      have : A * V ≤ (a / V + d) * V := Nat.mul_le_mul_right _ (by omega)
      unfold plP at h4; omega
    simp only [spec_soCounts_l3_b, eV, ed, em]
    rw [hSc, cond_dec, hres]
    by_cases h : ((min (c + 1) (A - a / V) : Nat) : Int) ≤ (c : Int)
    · rw [if_pos h, iw_id (x := ((a / V : Nat) : Int)) (by omega) (by omega), iw_id (by omega) (by omega), decide_eq_false (by omega)]
      rfl
    · rw [if_neg h]; rfl
theorem sp2_is (N : List Nat) (hw : ∀ a, w a = W ones (fun d : Nat => d / 2) N ((a / V : Nat) : Int) ((a % V : Nat) : Int)) (hN : ∀ x y : Int, W ones (fun d : Nat => d / 2) (N ++ [c]) x y ≤ 37822859361) :
    spec_soCounts_l2 k S (m : Int) (p : Int) (((p : Int), ()), ()) (row (A * V) w) (i : Int) (row (A * V) fun _ => 0) 0 = some (.inl (row (A * V) (fun t => W ones (fun d : Nat => d / 2) (N ++ [c]) ((t / V : Nat) : Int) ((t % V : Nat) : Int)), ())) := by
  have hVp : 0 < V := by omega
  have hAV : A * V ≤ 161 * 81 := Nat.mul_le_mul (by omega) (by omega)
  have eV : iw ((p : Int) + 1) = (V : Int) := by rw [iw_nat (by omega), hV]
  have hfun : w = fun a : Nat => W ones (fun d : Nat => d / 2) N ((a / V : Nat) : Int) ((a % V : Nat) : Int) := funext hw
  have hfull : ∀ t, t < A * V → upP V c w (A * V) t = W ones (fun d : Nat => d / 2) (N ++ [c]) ((t / V : Nat) : Int) ((t % V : Nat) : Int) := fun t ht => by rw [hfun]; exact upP_is V A c hVp N t ht
  have hbound : ∀ a t, a ≤ A * V → t < A * V → upP V c w a t ≤ 37822859361 := fun a t ha ht => by
    have h1 : upP V c w a t ≤ upP V c w (A * V) t := sumN_mono ha
    rw [hfull t ht] at h1
    exact Nat.le_trans h1 (hN _ _)
  unfold spec_soCounts_l2
  rw [show row (A * V) (fun _ => 0) = row (A * V) (upP V c w 0) from rfl]
  refine iter_to (fun a => (row (A * V) (upP V c w a), (a : Int), ())) (A * V) _ (fun a ha rec => ?_) (fun rec => ?_) k (by omega)
  · have hstep : ∀ t, upP V c w (a + 1) t = upP V c w a t + ptP V w a (c + 1) t := fun t => rfl
    simp only [spec_soCounts_l2_b, eV]
    rw [cond_dec, if_pos (by rw [row_len]; omega), ixk_in (by omega) (by rw [row_len]; omega), row_get _ _ a ha, iw_nat (by omega)]
    by_cases h0 : w a = 0
    · have e : ((w a : Int) == 0) = true := by rw [h0]; rfl
      rw [e]
      simp only [cond_true, met_inl]
      congr 2
      refine row_congr fun t _ => ?_
      rw [hstep]
      have : ptP V w a (c + 1) t = 0 := sumN_zero _ fun d _ => by rw [h0]; split <;> rfl
      omega
    · have e : ((w a : Int) == 0) = false := by simp; omega
      have hne : ((V : Int) == 0) = false := by simp; omega
      rw [e, hne]
      simp only [cond_false, Bool.not_false]
      rw [chk_true rfl, chk_true rfl, sp3_is k hk m p A V hA hV hm hp S i c hc hi hSc w a ha _ (fun t ht => by rw [← hstep]; exact hbound (a + 1) t (by omega) ht)]
      rfl
  · simp only [spec_soCounts_l2_b]
    rw [cond_dec, if_neg (by rw [row_len]; omega)]
    congr 3
    exact row_congr fun t ht => hfull t ht
end

theorem WO_small {N : List Nat} (x y : Int) (h : ∀ n ∈ N, n ≤ 20) (hl : N.length ≤ 8) : W ones (fun d : Nat => d / 2) N x y ≤ 37822859361 := Nat.le_trans (WO_le N x y) (V_small x h hl)
theorem soCountsP_is (k : Nat) (hk : 100000 ≤ k) {S : List Int} (G : Good S) (m p : Nat) (hm : m ≤ 160) (hp : p ≤ 80) : spec_soCounts_f k S (m : Int) (p : Int) = some (((W ones (fun d : Nat => d / 2) (nats' S) (m : Int) (p : Int) : Int), ()), ()) := by
  have l8 := G.l8
  have hN := nats_len S
  obtain ⟨A, hA⟩ : ∃ A, A = m + 1 := ⟨_, rfl⟩
  obtain ⟨V, hV⟩ : ∃ V, V = p + 1 := ⟨_, rfl⟩
  have hVp : 0 < V := by omega
  have hAV : A * V ≤ 161 * 81 := Nat.mul_le_mul (by omega) (by omega)
  have hAV0 : 0 < A * V := Nat.mul_pos (by omega) hVp
  have e1 : iw ((m : Int) + 1) = (A : Int) := by rw [iw_nat (by omega), hA]
  have e2 : iw ((p : Int) + 1) = (V : Int) := by rw [iw_nat (by omega), hV]
  have e3 : iw ((A : Int) * (V : Int)) = ((A * V : Nat) : Int) := by rw [mulI, iw_id (by omega) (by omega)]
  have hrep : ∀ n, List.replicate n (0 : Int) = row n fun _ => 0 := fun n => by simp [row, List.map_const']
  have em : (if (p : Int) > 0 then (p : Int) else 0) = (p : Int) := by split <;> omega
  unfold spec_soCounts_f
  rw [most_l1, em]
  simp only [Option.bind_some]
  rw [e1, e2, e3, Int.toNat_natCast, hrep, chk_dec (by omega), chk_dec (by omega), chk_dec (by rw [row_len]; omega)]
  have h0 : setI (row (A * V) fun _ => 0) 0 1 = row (A * V) (fun t => W ones (fun d : Nat => d / 2) ((nats' S).take 0) ((t / V : Nat) : Int) ((t % V : Nat) : Int)) := by
    have a1 := row_set (A * V) (fun _ => 0) 0 1
    rw [show ((0 : Nat) : Int) = 0 from rfl, show ((1 : Nat) : Int) = 1 from rfl] at a1
    rw [a1]
    refine row_congr fun t _ => ?_
    have htt : t / V * V + t % V = t := by rw [Nat.mul_comm]; exact Nat.div_add_mod t V
    simp only [List.take_zero, W]
    by_cases ht : t = 0
    · subst ht; simp
    · rw [if_neg ht]
      by_cases hq : t / V = 0 ∧ t % V = 0
      · rw [hq.1, hq.2] at htt; omega
      · rw [if_neg (fun h => hq ⟨by exact_mod_cast h.1, by exact_mod_cast h.2⟩)]
  have hl : spec_soCounts_l1 k S (m : Int) (p : Int) (((p : Int), ()), ()) (setI (row (A * V) fun _ => 0) 0 1) 0 = some (.inl (row (A * V) (fun t => W ones (fun d : Nat => d / 2) (nats' S) ((t / V : Nat) : Int) ((t % V : Nat) : Int)), ())) := by
    rw [h0]
    unfold spec_soCounts_l1
    refine iter_to (fun i => (row (A * V) (fun t => W ones (fun d : Nat => d / 2) ((nats' S).take i) ((t / V : Nat) : Int) ((t % V : Nat) : Int)), (i : Int), ())) S.length _ (fun i hi rec => ?_) (fun rec => ?_) k (by omega)
    · have htk : (nats' S).take (i + 1) = (nats' S).take i ++ [at' S i] := by rw [at_get i hi]; exact List.take_succ_eq_append_getElem (by omega)
      simp only [spec_soCounts_l1_b]
      rw [cond_dec, if_pos (by omega), ixk_in (by omega) (by omega), row_len, Int.toNat_natCast, hrep, chk_dec (by omega), chk_dec (by omega), sp2_is k hk m p A V hA hV hm hp S i (at' S i) (at_le G.inS i) hi (at_is G.inS i) _ ((nats' S).take i) (fun _ => rfl) (fun x y => by
        rw [← htk]
        exact WO_small x y (fun n hn => nats_in G.inS n (List.mem_of_mem_take hn)) (by rw [List.length_take]; omega))]
      simp only [met_inl]
      rw [← htk, iw_nat (by omega)]
    · simp only [spec_soCounts_l1_b]
      rw [cond_dec, if_neg (by omega), List.take_of_length_le (by omega)]
  rw [hl]
  simp only [met_inl]
  have hidx : m * V + p < A * V := by
    rw [hA, Nat.add_mul, Nat.one_mul]; omega
  have hd := idx_div (p := m) (q := p) (V := V) (by omega)
  rw [mulI, iw_id (x := ((m * V : Nat) : Int)) (by omega) (by omega), show ((m * V : Nat) : Int) + (p : Int) = ((m * V + p : Nat) : Int) by omega, iw_id (by omega) (by omega), row_get _ _ _ hidx, ixk_in (by omega) (by rw [row_len]; omega), hd.1, hd.2]
/-! ### Draws with just so many pairs -/
def cpVal (S : List Int) (m p : Int) : (Int × Bool × Unit) × Unit := if (good S && (decide (0 ≤ m) && decide (0 ≤ p))) = true then (((W ones (fun d : Nat => d / 2) (nats' S) m p : Int), true, ()), ()) else ((0, false, ()), ())
theorem W_beyond {S : List Int} {m p : Int} (h : (total (nats' S) : Int) < m ∨ (halves (nats' S) : Int) < p) : W ones (fun d : Nat => d / 2) (nats' S) m p = 0 := by
  rcases h with h | h
  · exact W_over ones _ _ _ _ h
  · refine W_far ones (fun d : Nat => d / 2) (fun d n hd => Nat.div_le_div_right hd) _ _ _ ?_
    rw [halves_is]; exact h
theorem implCP_is (k : Nat) (hk : 1000 ≤ k) (S : List Int) (h8 : S.length ≤ 8) (m p : Int) : impl_CountPairDraws_f k S m p = some (cpVal S m p) := by
  unfold impl_CountPairDraws_f cpVal
  rw [implCount_is k hk S h8]
  unfold countVal
  cases hg : good S with
  | false => rfl
  | true =>
    have G := good_is hg
    by_cases h0 : 0 ≤ m
    · by_cases h1 : 0 ≤ p
      · obtain ⟨n, rfl⟩ : ∃ n : Nat, m = (n : Int) := ⟨m.toNat, by omega⟩
        obtain ⟨q, rfl⟩ : ∃ q : Nat, p = (q : Int) := ⟨p.toNat, by omega⟩
        rw [decide_eq_true h0, decide_eq_true h1]
        simp only [Bool.and_self, if_true, Option.bind_some, Bool.not_true, cond_false, met_inl]
        rw [decide_eq_false (show ¬ ((q : Int) < 0) by omega)]
        simp only [cond_false]
        rw [total_is k S (by omega) (by omega), (good_sum G).1]
        simp only [Option.bind_some]
        by_cases h2 : total (nats' S) < n
        · rw [cond_dec, if_pos (by omega), W_beyond (.inl (by omega))]; rfl
        · rw [cond_dec, if_neg (by omega), pairsOf_is k hk G]
          simp only [Option.bind_some, met_inl]
          by_cases h3 : halves (nats' S) < q
          · rw [decide_eq_true (show (q : Int) > (halves (nats' S) : Int) by omega), W_beyond (.inr (by omega))]; rfl
          · rw [decide_eq_false (show ¬ ((q : Int) > (halves (nats' S) : Int)) by omega), draws_is k hk G]
            simp only [cond_false, Option.bind_some]
            have ht : rdG [] (tabs S) 0 = wtO (total (nats' S) + 1) (halves (nats' S) + 1) (nats' S) := by
              have := tabs_get S 0 (Nat.zero_le _)
              rw [List.drop_zero] at this; exact this
            have hr : rdG [] (rdG [] (tabs S) 0) (n : Int) = row (halves (nats' S) + 1) fun p => W ones (fun d : Nat => d / 2) (nats' S) (n : Int) (p : Int) := by
              rw [ht]; exact tab_get _ _ _ n (by omega)
            rw [show xsO (total (nats' S) + 1) (halves (nats' S) + 1) (nats' S) S.length S.length = tabs S from rfl, chk_dec (by rw [tabs_len]; omega), hr, ixk_in (by omega) (by rw [ht]; unfold wtO; rw [tab_len]; omega), ixk_in (by omega) (by rw [row_len]; omega), row_get _ _ q (by omega)]
      · rw [decide_eq_true h0, decide_eq_false h1]
        simp only [Bool.and_true, Bool.and_false, if_true, Option.bind_some, Bool.not_true, cond_false, met_inl]
        rw [decide_eq_true (show p < 0 by omega)]; rfl
    · rw [decide_eq_false h0]; rfl
theorem specCP_is (k : Nat) (hk : 100000 ≤ k) (S : List Int) (h8 : S.length ≤ 8) (m p : Int) : spec_CountPairDraws_f k S m p = some (cpVal S m p) := by
  unfold spec_CountPairDraws_f cpVal
  rw [specCount_is k (by omega) S h8]
  unfold countVal
  cases hg : good S with
  | false => rfl
  | true =>
    have G := good_is hg
    obtain ⟨s1, s2, _⟩ := good_sum G
    have hH := halves2 (nats' S)
    by_cases h0 : 0 ≤ m
    · by_cases h1 : 0 ≤ p
      · obtain ⟨n, rfl⟩ : ∃ n : Nat, m = (n : Int) := ⟨m.toNat, by omega⟩
        obtain ⟨q, rfl⟩ : ∃ q : Nat, p = (q : Int) := ⟨p.toNat, by omega⟩
        rw [decide_eq_true h0, decide_eq_true h1]
        simp only [Bool.and_self, if_true, Option.bind_some, Bool.not_true, cond_false, met_inl]
        rw [decide_eq_false (show ¬ ((q : Int) < 0) by omega)]
        simp only [cond_false]
        rw [soSum_is k S (by omega) (by omega), s1]
        simp only [Option.bind_some]
        by_cases h2 : total (nats' S) < n
        · rw [cond_dec, if_pos (by omega), W_beyond (.inl (by omega))]; rfl
        · rw [cond_dec, if_neg (by omega), soPairs_is k (by omega) G]
          simp only [Option.bind_some, met_inl]
          by_cases h3 : halves (nats' S) < q
          · rw [decide_eq_true (show (q : Int) > (halves (nats' S) : Int) by omega), W_beyond (.inr (by omega))]; rfl
          · rw [decide_eq_false (show ¬ ((q : Int) > (halves (nats' S) : Int)) by omega)]
            simp only [cond_false]
            rw [soCountsP_is k hk G n q (by omega) (by omega)]
            rfl
      · rw [decide_eq_true h0, decide_eq_false h1]
        simp only [Bool.and_true, Bool.and_false, if_true, Option.bind_some, Bool.not_true, cond_false, met_inl]
        rw [decide_eq_true (show p < 0 by omega)]; rfl
    · rw [decide_eq_false h0]; rfl

/-! ### Numbers as texts -/
def dig (n : Nat) : List UInt8 := if n < 10 then [UInt8.ofNat (48 + n)] else [UInt8.ofNat (48 + n / 10), UInt8.ofNat (48 + n % 10)]
theorem lit_app (a b : List UInt8) : lit a ++ lit b = lit (a ++ b) := by
  apply ByteArray.ext
  simp [lit, ByteArray.data_append]
theorem lit_size (a : List UInt8) : (lit a).size = a.length := by simp [lit, ByteArray.size]
theorem lit_list (a : List UInt8) : (lit a).data.toList = a := rfl
theorem lit_nil : ByteArray.empty = lit [] := rfl
theorem wrap_u8 (n : Nat) (h : n < 256) : IntKind.wrap .u8 (n : Int) = (n : Int) := by
  have : ∀ n : Nat, n < 256 → IntKind.wrap .u8 (n : Int) = (n : Int) := by decide +kernel
  exact this n h
theorem one_byte (n : Nat) (h : n < 100) : strOfNums [IntKind.wrap .u8 (iw (48 + (n : Int)))] = lit [UInt8.ofNat (48 + n)] := by
  rw [iw_id (by omega) (by omega), show (48 : Int) + (n : Int) = ((48 + n : Nat) : Int) by omega, wrap_u8 _ (by omega)]
  rfl
theorem l1Num_r_is (k : Nat) : ∀ (i n : Nat), n < 100 → 2 ≤ i → spec_l1Num_r k i (n : Int) = some ((lit (dig n), ()), ()) := by
  have small : ∀ (i n : Nat), n < 10 → 1 ≤ i → spec_l1Num_r k i (n : Int) = some ((lit (dig n), ()), ()) := fun i n hn hi => by
    obtain ⟨i, rfl⟩ : ∃ j, i = j + 1 := ⟨i - 1, by omega⟩
    show spec_l1Num_s k _ (n : Int) = _
    unfold spec_l1Num_s dig
    rw [cond_dec, if_pos (by omega), if_pos hn, one_byte n (by omega)]
  intro i n hn hi
  by_cases h : n < 10
  · exact small i n h (by omega)
  · obtain ⟨i, rfl⟩ : ∃ j, i = j + 1 := ⟨i - 1, by omega⟩
    show spec_l1Num_s k (spec_l1Num_r k i) (n : Int) = _
    unfold spec_l1Num_s
    have e1 : iw (Int.tdiv (n : Int) 10) = ((n / 10 : Nat) : Int) := by rw [Int.tdiv_eq_ediv_of_nonneg (by omega), iw_id (by omega) (by omega)]; rfl
    have e2 : Int.tmod (n : Int) 10 = ((n % 10 : Nat) : Int) := by rw [Int.tmod_eq_emod_of_nonneg (by omega)]; rfl
    rw [cond_dec, if_neg (by omega), e1, e2, small i (n / 10) (by omega) (by omega), one_byte (n % 10) (by omega)]
    simp only [Option.bind_some, andX_same]
    have e3 : dig (n / 10) = [UInt8.ofNat (48 + n / 10)] := by unfold dig; rw [if_pos (by omega)]
    rw [e3, chk_dec (by simp [lit_size]), lit_app]
    unfold dig
    rw [if_neg h]
    rfl
theorem l1Num_is (k : Nat) (hk : 2 ≤ k) (n : Nat) (hn : n < 100) : spec_l1Num_f k (n : Int) = some ((lit (dig n), ()), ()) := l1Num_r_is k k n hn hk
theorem decDigits_is (n : Nat) (hn : n < 100) : Lib.decDigits n = dig n := by
  have : ∀ n : Nat, n < 100 → Lib.decDigits n = dig n := by decide +kernel
  exact this n hn
theorem itoa_is (k : Nat) (n : Nat) (hn : n < 100) : strconv_Itoa_f k (n : Int) = some ((lit (dig n), ()), ()) := by
  unfold strconv_Itoa_f itoaL
  rw [decide_eq_true (show (0 : Int) ≤ (n : Int) by omega), decide_eq_true (show (n : Int) < 100 by omega), Int.toNat_natCast, decDigits_is n hn]
  rfl
/-- The text of numbers, with a hyphen between them. -/
def txt : List Nat → List UInt8
  | [] => []
  | [n] => dig n
  | n :: m :: N => dig n ++ 45 :: txt (m :: N)
theorem txt_snoc : ∀ (N : List Nat) (n : Nat), txt (N ++ [n]) = if N = [] then dig n else txt N ++ 45 :: dig n
  | [], n => rfl
  | [m], n => by simp [txt]
  | m :: m' :: N, n => by
    have := txt_snoc (m' :: N) n
    simp only [List.cons_append] at this ⊢
    simp only [txt]
    rw [this]
    simp
theorem dig_len (n : Nat) : 1 ≤ (dig n).length ∧ (dig n).length ≤ 2 := by unfold dig; split <;> simp
theorem txt_len : ∀ N : List Nat, (txt N).length ≤ 3 * N.length
  | [] => Nat.le_refl _
  | [n] => by have := dig_len n; simp only [txt, List.length_cons, List.length_nil]; omega
  | n :: m :: N => by
    have h1 := txt_len (m :: N)
    have h2 := dig_len n
    simp only [txt, List.length_append, List.length_cons] at h1 ⊢
    omega

theorem join_txt : ∀ N : List Nat, Lib.join (N.map dig) [45] = txt N
  | [] => rfl
  | [n] => by simp [Lib.join, txt, List.intercalate]
  | n :: m :: N => by
    have ih := join_txt (m :: N)
    simp only [Lib.join, List.map_cons, List.intercalate] at ih ⊢
    rw [List.intersperse_cons_cons] at *
    simp only [List.flatten_cons, txt] at ih ⊢
    rw [ih]
    simp
theorem soText_is (k : Nat) (hk : 100 ≤ k) {S : List Int} (hin : in20 S) (h8 : S.length ≤ 20) : spec_soText_f k S = some ((lit (txt (nats' S)), ()), ()) := by
  unfold spec_soText_f
  have hN := nats_len S
  have h : spec_soText_l1 k S ByteArray.empty 0 = some (.inl (lit (txt (nats' S)), ())) := by
    unfold spec_soText_l1
    rw [lit_nil]
    refine iter_to (fun j => (lit (txt ((nats' S).take j)), (j : Int), ())) S.length _ (fun j hj rec => ?_) (fun rec => ?_) k (by omega)
    · have htk : (nats' S).take (j + 1) = (nats' S).take j ++ [at' S j] := by rw [at_get j hj]; exact List.take_succ_eq_append_getElem (by omega)
      have hlen := txt_len ((nats' S).take j)
      rw [List.length_take] at hlen
      have h20 := at_le hin j
      have hd := dig_len (at' S j)
      simp only [spec_soText_l1_b]
      rw [cond_dec, if_pos (by omega), ixk_in (by omega) (by omega), at_is hin j, l1Num_is k (by omega) _ (by omega)]
      by_cases h0 : j = 0
      · subst h0
        rw [cond_dec, if_neg (by omega)]
        simp only [met_inl, Option.bind_some]
        rw [chk_dec (by rw [lit_size, lit_size]; omega), lit_app, htk, txt_snoc, iw_nat (by omega)]
        simp [txt]
      · rw [cond_dec, if_pos (by omega), chk_dec (by rw [lit_size, lit_size]; simp; omega), lit_app]
        simp only [met_inl, Option.bind_some]
        rw [chk_dec (by rw [lit_size, lit_size]; simp; omega), lit_app, htk, txt_snoc, if_neg (by
          intro e
          have : (List.take j (nats' S)).length = 0 := by rw [e]; rfl
          rw [List.length_take] at this
          omega), iw_nat (by omega)]
        simp
    · simp only [spec_soText_l1_b]
      rw [cond_dec, if_neg (by omega), List.take_of_length_le (by omega)]
  rw [h]; rfl
theorem joined_is (k : Nat) (hk : 100 ≤ k) {S : List Int} (hin : in20 S) (h8 : S.length ≤ 20) : impl_joined_f k S (lit [45]) = some ((lit (txt (nats' S)), ()), ()) := by
  unfold impl_joined_f
  have hN := nats_len S
  have h : impl_joined_l1 k S [] 0 = some (.inl ((nats' S).map fun n => lit (dig n), ())) := by
    unfold impl_joined_l1
    refine iter_to (fun j => (((nats' S).take j).map (fun n => lit (dig n)), (j : Int), ())) S.length _ (fun j hj rec => ?_) (fun rec => ?_) k (by omega)
    · have htk : (nats' S).take (j + 1) = (nats' S).take j ++ [at' S j] := by rw [at_get j hj]; exact List.take_succ_eq_append_getElem (by omega)
      have h20 := at_le hin j
      simp only [impl_joined_l1_b]
      rw [cond_dec, if_pos (by omega), ixk_in (by omega) (by omega), at_is hin j, itoa_is k _ (by omega)]
      simp only [Option.bind_some]
      rw [chk_dec (by simp; omega), htk, List.map_append, iw_nat (by omega)]
      rfl
    · simp only [impl_joined_l1_b]
      rw [cond_dec, if_neg (by omega), List.take_of_length_le (by omega)]
  rw [h]
  simp only [met_inl]
  unfold strings_Join_f joinL
  have e : ((nats' S).map fun n => lit (dig n)).map (fun b => b.data.toList) = (nats' S).map dig := by
    rw [List.map_map]; exact List.map_congr_left fun n _ => rfl
  have hl := txt_len (nats' S)
  rw [show (fun (x : ByteArray) => x.data.toList) = (fun b : ByteArray => b.data.toList) from rfl, e, lit_list, join_txt, decide_eq_true (by omega), decide_eq_true (by rw [List.length_map]; omega)]
  rfl
def textVal (S : List Int) : (ByteArray × Bool × Unit) × Unit := if good S = true then ((lit (txt (nats' S)), true, ()), ()) else ((ByteArray.empty, false, ()), ())
theorem implText_is (k : Nat) (hk : 100 ≤ k) (S : List Int) (h8 : S.length ≤ 8) : impl_SocksText_f k S = some (textVal S) := by
  unfold impl_SocksText_f textVal
  rw [areSocks_is k hk S h8]
  cases hg : good S with
  | false => rfl
  | true =>
    simp only [Option.bind_some, Bool.not_true, cond_false, if_true]
    rw [joined_is k hk (good_is hg).inS (by omega)]
    rfl
theorem specText_is (k : Nat) (hk : 100 ≤ k) (S : List Int) (h8 : S.length ≤ 8) : spec_SocksText_f k S = some (textVal S) := by
  unfold spec_SocksText_f textVal
  rw [soGood_is k hk S h8]
  cases hg : good S with
  | false => rfl
  | true =>
    simp only [Option.bind_some, Bool.not_true, cond_false, if_true]
    rw [soText_is k hk (good_is hg).inS (by omega)]
    rfl

theorem drawRank_is (k : Nat) (hk : 100 ≤ k) (l : List Int) (h : ∀ x ∈ l, 0 ≤ x ∧ x ≤ 255) : ∃ S D, spec_DrawRankOfDraw_f k l = some ((S, D, ()), ()) ∧ Drawn S ∧ in64 D ∧ D.length ≤ 9 := by
  obtain ⟨S, D, e, d1, d2, d3⟩ := drawIs_is k hk l h
  exact ⟨S, D, by unfold spec_DrawRankOfDraw_f; rw [e]; rfl, d1, d2, d3⟩
theorem drawSText_is (k : Nat) (hk : 100 ≤ k) (l : List Int) (h : ∀ x ∈ l, 0 ≤ x ∧ x ≤ 255) : ∃ S, spec_DrawSocksText_f k l = some ((S, ()), ()) ∧ Drawn S := by
  obtain ⟨S, e, d⟩ := drawAre_is k hk l h
  exact ⟨S, by unfold spec_DrawSocksText_f; rw [e]; rfl, d⟩
theorem drawCP_is (k : Nat) (hk : 100 ≤ k) (l : List Int) (h : ∀ x ∈ l, 0 ≤ x ∧ x ≤ 255) : ∃ S m p, spec_DrawCountPairDraws_f k l = some ((S, m, p, ()), ()) ∧ Drawn S := by
  unfold spec_DrawCountPairDraws_f
  obtain ⟨S, c, e, h1, q, d, hl⟩ := socks_is k hk (cur0 h) (by omega)
  obtain ⟨v2, c2, e2, a2, h2, q2⟩ := among_is k h1 (by omega) [0, 1, 2, 3, 4, 5, 8, 80, (-1), 4611686018427387904] (by decide)
  obtain ⟨v3, c3, e3, a3, h3, q3⟩ := among_is k h2 (by omega) [0, 1, 2, 3, (-1), 4611686018427387904] (by decide)
  rw [e]; simp only [Option.bind_some]
  rw [ceta, e2]; simp only [Option.bind_some]
  rw [ceta, e3]
  exact ⟨S, v2, v3, rfl, d, hl⟩
theorem drawDor_is (k : Nat) (hk : 100 ≤ k) (l : List Int) (h : ∀ x ∈ l, 0 ≤ x ∧ x ≤ 255) : ∃ S m p, spec_DrawDrawOfRank_f k l = some ((S, m, p, ()), ()) ∧ Drawn S := by
  unfold spec_DrawDrawOfRank_f
  obtain ⟨S, c, e, h1, q, d, hl⟩ := socks_is k hk (cur0 h) (by omega)
  obtain ⟨v2, c2, e2, a2, h2, q2⟩ := among_is k h1 (by omega) [0, 1, 2, 3, 4, 5, 8, (-1), 4611686018427387904] (by decide)
  obtain ⟨v3, c3, e3, a3, h3, q3⟩ := among_is k h2 (by omega) [0, 1, 2, 3, 5, 9, (-1), 4611686018427387904] (by decide)
  rw [e]; simp only [Option.bind_some]
  rw [ceta, e2]; simp only [Option.bind_some]
  rw [ceta, e3]
  exact ⟨S, v2, v3, rfl, d, hl⟩

theorem sure9_loop (k : Nat) : ∀ (j i : Nat) (m : Int) (c : CurT) (S : List Int), Cur m c → m + 2 * j ≤ 999999999999990 → j < i → (∀ x ∈ S, 0 ≤ x ∧ x ≤ 9) → S.length + j ≤ 10 →
    ∃ c' S', iter i (sureF k) (c, S, (j : Int), ()) = some (.inl (c', S', ())) ∧ Cur (m + 2 * j) c' ∧ c'.1 = c.1 ∧ (∀ x ∈ S', 0 ≤ x ∧ x ≤ 9) ∧ S'.length = S.length + j := by
  intro j
  induction j with
  | zero =>
    intro i m c S hc hm hi hS _
    obtain ⟨i, rfl⟩ : ∃ i', i = i' + 1 := ⟨i - 1, by omega⟩
    refine ⟨c, S, ?_, by simpa using hc, rfl, hS, rfl⟩
    show sureF k _ _ = _
    simp only [sureF, spec_l1Cur_sureSocks_l1_b, cond_dec]
    rw [if_neg (by simp)]
  | succ j ih =>
    intro i m c S hc hm hi hS hl
    obtain ⟨i, rfl⟩ : ∃ i', i = i' + 1 := ⟨i - 1, by omega⟩
    obtain ⟨v1, c1, e1, a1, b1, h1, q1⟩ := pick_is k hc (by omega) 6
    obtain ⟨c', S', e3, h3, q3, d3, l3⟩ := ih i (m + 2) c1 (S ++ [v1]) h1 (by omega) (by omega) (by
      intro x hx
      rcases List.mem_append.mp hx with hx | hx
      · exact hS x hx
      · rw [List.mem_singleton.mp hx]; exact ⟨by omega, by omega⟩) (by simp; omega)
    refine ⟨c', S', ?_, h3.mono (by omega), by rw [q3, q1], d3, by rw [l3]; simp; omega⟩
    rw [← e3]
    show sureF k _ _ = _
    simp only [sureF, spec_l1Cur_sureSocks_l1_b, cond_dec]
    rw [if_pos (by omega), show (c.1, c.2.1, c.2.2.1, ()) = c from rfl, e1]
    simp only [Option.bind_some]
    rw [chk_dec (by simp; omega), iw_id (by omega) (by omega), show ((j + 1 : Nat) : Int) - 1 = (j : Int) by omega]
/-- spec.l1Cur.sureSocks gives digits. -/
theorem sure9_is (k : Nat) (hk : 100 ≤ k) {m : Int} {c : CurT} (h : Cur m c) (hm : m ≤ 999999999999900) :
    ∃ S c', spec_l1Cur_sureSocks_f k c = some ((S, ()), (c', ())) ∧ Cur (m + 14) c' ∧ c'.1 = c.1 ∧ (∀ x ∈ S, 0 ≤ x ∧ x ≤ 9) ∧ 1 ≤ S.length ∧ S.length ≤ 4 := by
  unfold spec_l1Cur_sureSocks_f
  obtain ⟨v1, c1, e1, a1, b1, h1, q1⟩ := pick_is k h (by omega) 4
  rw [show (c.1, c.2.1, c.2.2.1, ()) = c from rfl, e1]
  simp only [Option.bind_some]
  obtain ⟨n, rfl⟩ : ∃ n : Nat, v1 = (n : Int) := ⟨v1.toNat, by omega⟩
  obtain ⟨c2, S, e2, h2, q2, d2, l2⟩ := sure9_loop k n k (m + 2) c1 [] h1 (by omega) (by omega) (fun x hx => by cases hx) (by simp; omega)
  rw [show (spec_l1Cur_sureSocks_l1 k (c1.1, c1.2.1, c1.2.2.1, ()) [] (n : Int)) = iter k (sureF k) (c1, [], (n : Int), ()) from rfl, e2]
  simp only [met_inl]
  obtain ⟨v3, c3, e3, a3, b3, h3, q3⟩ := pick_is k h2 (by omega) 5
  rw [show (c2.1, c2.2.1, c2.2.2.1, ()) = c2 from rfl, e3]
  simp only [Option.bind_some]
  simp only [List.length_nil, Nat.zero_add] at l2
  have hi : iw (1 + v3) = 1 + v3 := iw_id (by omega) (by omega)
  rw [hi, chk_dec (by simp; omega)]
  refine ⟨_, _, rfl, h3.mono (by omega), by show c3.1 = c.1; rw [q3, q2, q1], ?_, by simp, by simp; omega⟩
  intro x hx
  rcases List.mem_append.mp hx with hx | hx
  · exact d2 x hx
  · rw [List.mem_singleton.mp hx]; exact ⟨by omega, by omega⟩

theorem strOne (x : Int) : (strOfNums [x]).size = 1 := by first | rfl | simp [strOfNums, ByteArray.size]
abbrev SPR := (CurT × ByteArray × Unit) ⊕ ((ByteArray × Unit) × (CurT × Unit))
noncomputable def spoiltF (k : Nat) (p2 : ByteArray) (rec : (CurT × ByteArray × Int × Unit) → Option SPR) (x : CurT × ByteArray × Int × Unit) : Option SPR :=
  spec_l1Cur_spoilt_l1_b k p2 (fun x0 x1 x7 => rec (x0, x1, x7, ())) x.1 x.2.1 x.2.2.1
theorem cutSize (s : ByteArray) (a b : Nat) : (ByteArray.extract s a b).size ≤ s.size := by
  rw [ByteArray.size_extract]; omega
theorem spoilt_loop (k : Nat) (p2 : ByteArray) (hp : 1 < p2.size) (hp2 : p2.size ≤ 100) : ∀ (j i : Nat) (m : Int) (c : CurT) (s : ByteArray), Cur m c → m + 6 * j ≤ 999999999999900 → j < i → s.size + j ≤ 1000 →
    ∃ c' s', iter i (spoiltF k p2) (c, s, (j : Int), ()) = some (.inl (c', s', ())) ∧ s'.size ≤ s.size + j := by
  intro j
  induction j with
  | zero =>
    intro i m c s hc hm hi hS
    obtain ⟨i, rfl⟩ : ∃ i', i = i' + 1 := ⟨i - 1, by omega⟩
    refine ⟨c, s, ?_, by omega⟩
    show spoiltF k p2 _ _ = _
    simp only [spoiltF, spec_l1Cur_spoilt_l1_b, cond_dec]
    rw [if_neg (by simp)]
    rfl
  | succ j ih =>
    intro i m c s hc hm hi hS
    obtain ⟨i, rfl⟩ : ∃ i', i = i' + 1 := ⟨i - 1, by omega⟩
    by_cases hz : s.size = 0
    · refine ⟨c, s, ?_, by omega⟩
      show spoiltF k p2 _ _ = _
      simp only [spoiltF, spec_l1Cur_spoilt_l1_b, cond_dec]
      rw [if_pos (by omega)]
      simp only [met_inl, hz]
      rfl
    · obtain ⟨v1, c1, e1, a1, b1, h1, q1⟩ := pick_is k hc (by omega) ((s.size : Nat) : Int)
      obtain ⟨v2, c2, e2, a2, b2, h2, q2⟩ := pick_is k h1 (by omega) ((p2.size : Nat) : Int)
      obtain ⟨v3, c3, e3, a3, b3, h3, q3⟩ := pick_is k h2 (by omega) 3
      have hv : v1 < (s.size : Int) := by omega
      have hw : v2 < (p2.size : Int) := by omega
      have c1s := cutSize s 0 (Int.toNat v1)
      have c2s : (ByteArray.extract s 0 (Int.toNat v1)).size = _ := ByteArray.size_extract
      have c3s : (ByteArray.extract s (Int.toNat v1) s.size).size = _ := ByteArray.size_extract
      have c4s : (ByteArray.extract s (Int.toNat (v1 + 1)) s.size).size = _ := ByteArray.size_extract
      have one := strOne (byteAt p2 v2)
      have hi1 : iw (v1 + 1) = v1 + 1 := iw_id (by omega) (by omega)
      have step : ∃ s1, s1.size ≤ s.size + 1 ∧ iter (i + 1) (spoiltF k p2) (c, s, ((j + 1 : Nat) : Int), ()) = iter i (spoiltF k p2) (c3, s1, (j : Int), ()) := by
        have hgt : decide (((s.size : Nat) : Int) > 0) = true := decide_eq_true (by omega)
        have hj : iw (((j + 1 : Nat) : Int) - 1) = (j : Int) := by rw [iw_id (by omega) (by omega)]; omega
        cases g0 : v3 == 0 with
        | true =>
          refine ⟨(ByteArray.extract s 0 (Int.toNat v1)) ++ (strOfNums [byteAt p2 v2]) ++ (ByteArray.extract s (Int.toNat v1) s.size), ?_, ?_⟩
          rotate_left
          · show spoiltF k p2 _ _ = _
            simp only [spoiltF, spec_l1Cur_spoilt_l1_b, cond_dec]
            rw [if_pos (by omega)]
            simp only [met_inl, hgt, cond_true]
            rw [show (c.1, c.2.1, c.2.2.1, ()) = c from rfl, e1]
            simp only [Option.bind_some]
            rw [show (c1.1, c1.2.1, c1.2.2.1, ()) = c1 from rfl, e2]
            simp only [Option.bind_some]
            rw [ixk_in a2 (by omega), show (c2.1, c2.2.1, c2.2.2.1, ()) = c2 from rfl, e3]
            simp only [Option.bind_some, g0, cond_true]
            rw [chk_dec a1, chk_dec (by omega), chk_dec (by omega), chk_dec a1, chk_dec (by omega), chk_dec (by rw [ByteArray.size_append]; omega)]
            simp only [met_inl, hj]
          · rw [ByteArray.size_append, ByteArray.size_append]; omega
        | false =>
          cases g1 : v3 == 1 with
          | true =>
            refine ⟨(ByteArray.extract s 0 (Int.toNat v1)) ++ (strOfNums [byteAt p2 v2]) ++ (ByteArray.extract s (Int.toNat (v1 + 1)) s.size), ?_, ?_⟩
            rotate_left
            · show spoiltF k p2 _ _ = _
              simp only [spoiltF, spec_l1Cur_spoilt_l1_b, cond_dec]
              rw [if_pos (by omega)]
              simp only [met_inl, hgt, cond_true]
              rw [show (c.1, c.2.1, c.2.2.1, ()) = c from rfl, e1]
              simp only [Option.bind_some]
              rw [show (c1.1, c1.2.1, c1.2.2.1, ()) = c1 from rfl, e2]
              simp only [Option.bind_some]
              rw [ixk_in a2 (by omega), show (c2.1, c2.2.1, c2.2.2.1, ()) = c2 from rfl, e3]
              simp only [Option.bind_some, g0, g1, cond_true, cond_false, hi1]
              rw [chk_dec a1, chk_dec (by omega), chk_dec (by omega), chk_dec (by omega), chk_dec (by omega), chk_dec (by rw [ByteArray.size_append]; omega)]
              simp only [met_inl, hj]
            · rw [ByteArray.size_append, ByteArray.size_append]; omega
          | false =>
            refine ⟨(ByteArray.extract s 0 (Int.toNat v1)) ++ (ByteArray.extract s (Int.toNat (v1 + 1)) s.size), ?_, ?_⟩
            rotate_left
            · show spoiltF k p2 _ _ = _
              simp only [spoiltF, spec_l1Cur_spoilt_l1_b, cond_dec]
              rw [if_pos (by omega)]
              simp only [met_inl, hgt, cond_true]
              rw [show (c.1, c.2.1, c.2.2.1, ()) = c from rfl, e1]
              simp only [Option.bind_some]
              rw [show (c1.1, c1.2.1, c1.2.2.1, ()) = c1 from rfl, e2]
              simp only [Option.bind_some]
              rw [ixk_in a2 (by omega), show (c2.1, c2.2.1, c2.2.2.1, ()) = c2 from rfl, e3]
              simp only [Option.bind_some, g0, g1, cond_false, hi1]
              rw [chk_dec a1, chk_dec (by omega), chk_dec (by omega), chk_dec (by omega), chk_dec (by omega)]
              simp only [met_inl, hj]
            · rw [ByteArray.size_append]; omega
      obtain ⟨s1, l1, es⟩ := step
      obtain ⟨c', s', e4, l4⟩ := ih i (m + 6) c3 s1 (h3.mono (by omega)) (by omega) (by omega) (by omega)
      exact ⟨c', s', by rw [es, e4], by omega⟩
theorem spoilt_is (k : Nat) (hk : 100 ≤ k) {m : Int} {c : CurT} (h : Cur m c) (hm : m ≤ 999999999990000) (p2 s : ByteArray) (hp : 1 < p2.size) (hp2 : p2.size ≤ 100) (hs : s.size ≤ 900) :
    ∃ s' c', spec_l1Cur_spoilt_f k c s p2 = some ((s', ()), (c', ())) ∧ s'.size ≤ s.size + 2 := by
  unfold spec_l1Cur_spoilt_f
  obtain ⟨v, c1, e1, a1, b1, h1, q1⟩ := pick_is k h (by omega) 2
  rw [show (c.1, c.2.1, c.2.2.1, ()) = c from rfl, e1]
  simp only [Option.bind_some]
  obtain ⟨n, rfl⟩ : ∃ n : Nat, v = (n : Int) := ⟨v.toNat, by omega⟩
  obtain ⟨c', s', e, l⟩ := spoilt_loop k p2 hp hp2 (n + 1) k (m + 2) c1 s h1 (by omega) (by omega) (by omega)
  rw [show iw (1 + (n : Int)) = ((n + 1 : Nat) : Int) by rw [iw_id (by omega) (by omega)]; omega]
  rw [show (spec_l1Cur_spoilt_l1 k p2 (c1.1, c1.2.1, c1.2.2.1, ()) s ((n + 1 : Nat) : Int)) = iter k (spoiltF k p2) (c1, s, ((n + 1 : Nat) : Int), ()) from rfl, e]
  exact ⟨s', c', rfl, by omega⟩
theorem drawPS_is (k : Nat) (hk : 100 ≤ k) (l : List Int) (h : ∀ x ∈ l, 0 ≤ x ∧ x ≤ 255) : ∃ s, spec_DrawParseSocks_f k l = some ((s, ()), ()) ∧ s.size ≤ 20 := by
  unfold spec_DrawParseSocks_f
  obtain ⟨S, c, e, h1, q, d, hl1, hl⟩ := sure9_is k hk (cur0 h) (by omega)
  rw [e]; simp only [Option.bind_some]
  rw [soText_is k hk (fun x hx => ⟨(d x hx).1, by have := (d x hx).2; omega⟩) (by omega)]
  simp only [Option.bind_some]
  obtain ⟨b, c2, e2, h2, q2⟩ := one_is k h1 (by omega) 3
  rw [ceta, e2]
  simp only [Option.bind_some]
  have hb2 : (txt (nats' S)).length ≤ 12 := by
    have t := txt_len (nats' S)
    have u : (nats' S).length = S.length := by simp [nats']
    omega
  cases b with
  | false => exact ⟨_, rfl, by rw [lit_size]; omega⟩
  | true =>
    obtain ⟨s', c', e3, l3⟩ := spoilt_is k hk h2 (by omega) (lit [48, 49, 50, 51, 45, 120]) (lit (txt (nats' S))) (by rw [lit_size]; decide) (by rw [lit_size]; decide) (by rw [lit_size]; omega)
    rw [lit_size] at l3
    simp only [cond_true]
    rw [ceta, e3]
    exact ⟨s', rfl, by omega⟩

/-! ### A text's pieces between a byte -/
def headApp (p : List UInt8) : List (List UInt8) → List (List UInt8)
  | [] => [p]
  | w :: r => (p ++ w) :: r
def splL (c : UInt8) : List UInt8 → List (List UInt8)
  | [] => [[]]
  | b :: l => if b = c then [] :: splL c l else headApp [b] (splL c l)
theorem headApp_nil {ws : List (List UInt8)} (h : ws ≠ []) : headApp [] ws = ws := by
  cases ws with
  | nil => exact absurd rfl h
  | cons w r => rfl
theorem headApp_app (p q : List UInt8) (ws : List (List UInt8)) : headApp p (headApp q ws) = headApp (p ++ q) ws := by
  cases ws <;> simp [headApp]
theorem headApp_len (p : List UInt8) {ws : List (List UInt8)} (h : ws ≠ []) : (headApp p ws).length = ws.length := by
  cases ws with
  | nil => exact absurd rfl h
  | cons w r => rfl
theorem splL_ne (c : UInt8) (l : List UInt8) : splL c l ≠ [] := by
  cases l with
  | nil => simp [splL]
  | cons b l =>
    unfold splL
    split
    · simp
    · cases splL c l <;> simp [headApp]
theorem splL_len (c : UInt8) (l : List UInt8) : (splL c l).length = l.count c + 1 := by
  induction l with
  | nil => rfl
  | cons b l ih =>
    unfold splL
    by_cases h : b = c
    · subst h; simp [ih]
    · rw [if_neg h, headApp_len _ (splL_ne c l), ih, List.count_cons_of_ne (by simpa using h)]
theorem splL_none (c : UInt8) (l : List UInt8) (h : l.count c = 0) : splL c l = [l] := by
  induction l with
  | nil => rfl
  | cons b l ih =>
    by_cases hb : b = c
    · subst hb; simp at h
    · rw [List.count_cons_of_ne (by simpa using hb)] at h
      unfold splL; rw [if_neg hb, ih h]; rfl
theorem index_cons (b c : UInt8) (l : List UInt8) : Lib.index (b :: l) [c] = if b = c then 0 else if Lib.index l [c] == -1 then -1 else Lib.index l [c] + 1 := by
  by_cases h : b = c
  · subst h; rw [Lib.index]; simp [List.isPrefixOf]
  · have hp : ([c] : List UInt8).isPrefixOf (b :: l) = false := by simp [List.isPrefixOf, Ne.symm h]
    rw [Lib.index, hp]; simp [h]
theorem splitK_cons (b c : UInt8) (l : List UInt8) (k : Nat) : Lib.splitK [c] 0 (k + 1) (b :: l) = if b = c then [] :: Lib.splitK [c] 0 k l else headApp [b] (Lib.splitK [c] 0 (k + 1) l) := by
  have hge := Lib.index_ge l [c]
  rw [Lib.splitK, index_cons]
  by_cases h : b = c
  · subst h; simp
  · rw [if_neg h, if_neg h]
    conv => rhs; rw [Lib.splitK]
    by_cases hm : Lib.index l [c] = -1
    · simp [hm, headApp]
    · obtain ⟨j, hj⟩ : ∃ j : Nat, Lib.index l [c] = j := ⟨(Lib.index l [c]).toNat, by omega⟩
      have e1 : ((j : Int) + 1).toNat = j + 1 := by omega
      have n1 : ¬ ((j : Int) = -1) := by omega
      have n2 : ¬ ((j : Int) + 1 = -1) := by omega
      simp [hj, n1, n2, e1, headApp]
theorem splitK_nil (c : UInt8) (k : Nat) : Lib.splitK [c] 0 k [] = [[]] := by cases k <;> simp [Lib.splitK, Lib.index]
theorem splitK_ne (c : UInt8) (k : Nat) (l : List UInt8) : Lib.splitK [c] 0 k l ≠ [] := by
  cases k with
  | zero => simp [Lib.splitK]
  | succ k => rw [Lib.splitK]; split <;> simp
theorem splitK_is (c : UInt8) (l : List UInt8) : ∀ k : Nat, l.count c ≤ k → Lib.splitK [c] 0 k l = splL c l := by
  induction l with
  | nil => intro k _; rw [splitK_nil]; rfl
  | cons b l ih =>
    intro k hk
    cases k with
    | zero => rw [splL_none c _ (by omega)]; rfl
    | succ k =>
      rw [splitK_cons]
      unfold splL
      by_cases h : b = c
      · subst h; simp at hk; rw [if_pos rfl, if_pos rfl, ih k hk]
      · rw [List.count_cons_of_ne (by simpa using h)] at hk
        rw [if_neg h, if_neg h, ih (k + 1) hk]
theorem splitK_len (c : UInt8) (l : List UInt8) : ∀ k : Nat, (Lib.splitK [c] 0 k l).length = min k (l.count c) + 1 := by
  induction l with
  | nil => intro k; rw [splitK_nil]; simp
  | cons b l ih =>
    intro k
    cases k with
    | zero => simp [Lib.splitK]
    | succ k =>
      rw [splitK_cons]
      by_cases h : b = c
      · subst h; simp [ih k]
      · rw [if_neg h, headApp_len _ (splitK_ne c _ l), ih (k + 1), List.count_cons_of_ne (by simpa using h)]
/-- The pieces tell the text. -/
def jnL (c : UInt8) : List (List UInt8) → List UInt8
  | [] => []
  | [w] => w
  | w :: v :: r => w ++ c :: jnL c (v :: r)
theorem jnL_head (c b : UInt8) {ws : List (List UInt8)} (h : ws ≠ []) : jnL c (headApp [b] ws) = b :: jnL c ws := by
  match ws with
  | [] => exact absurd rfl h
  | [w] => rfl
  | w :: v :: r => rfl
theorem jnL_spl (c : UInt8) (l : List UInt8) : jnL c (splL c l) = l := by
  induction l with
  | nil => rfl
  | cons b l ih =>
    unfold splL
    by_cases h : b = c
    · rw [if_pos h]
      cases hw : splL c l with
      | nil => exact absurd hw (splL_ne c l)
      | cons w r => rw [hw] at ih; show [] ++ c :: jnL c (w :: r) = _; rw [ih, h]; rfl
    · rw [if_neg h, jnL_head c b (splL_ne c l), ih]
/-! ### Numbers read -/
def rdw (l : List UInt8) : Option Nat := if 1 ≤ l.length ∧ (l.head? ≠ some 48 ∨ l.length ≤ 1) then Lib.decFrom 0 l else none
def rdR (l : List UInt8) : Int := if l.length ≤ 6 then (match rdw l with | some n => (n : Int) | none => -1) else -1
def numR (l : List UInt8) (d : Nat) : Int × Bool := if l.length ≤ d then (match rdw l with | some n => ((n : Int), true) | none => (0, false)) else (0, false)
theorem list_size (s : ByteArray) : s.data.toList.length = s.size := by rw [Array.length_toList]; rfl
theorem dig_of (c : UInt8) : Lib.digitVal c = if 48 ≤ c.toNat ∧ c.toNat ≤ 57 then some (c.toNat - 48) else none := rfl
theorem pow_step (acc c n : Nat) (ha : acc < 10 ^ n) (h2 : c ≤ 57) : acc * 10 + (c - 48) < 10 ^ (n + 1) := by
  have hp : 10 ^ (n + 1) = 10 ^ n * 10 := Nat.pow_succ ..
  rw [hp]
  generalize 10 ^ n = X at *
  omega
theorem dropWhile_nil {α : Type} (p : α → Bool) (l : List α) : l.dropWhile p = [] ↔ ∀ c ∈ l, p c = true := by
  induction l with
  | nil => simp
  | cons x r ih =>
    rw [List.dropWhile_cons]
    by_cases hx : p x = true
    · rw [if_pos hx, ih]; simp [hx]
    · rw [if_neg hx]; simp [hx]
theorem digs_has (c : UInt8) : ([48, 49, 50, 51, 52, 53, 54, 55, 56, 57] : List UInt8).contains c = decide (48 ≤ c.toNat ∧ c.toNat ≤ 57) := by
  rw [Bool.eq_iff_iff, List.contains_iff_mem]
  simp only [List.mem_cons, List.not_mem_nil, or_false, ← UInt8.toNat_inj, decide_eq_true_eq]
  simp only [UInt8.reduceToNat]
  omega
theorem trimS_nil (l cs : List UInt8) : Lib.trimS l cs = [] ↔ ∀ c ∈ l, cs.contains c = true := by
  unfold Lib.trimS Lib.trimLeftS Lib.trimRightS
  rw [dropWhile_nil]
  constructor
  · intro h
    have : l.reverse.dropWhile (cs.contains ·) = [] := by
      cases hx : l.reverse.dropWhile (cs.contains ·) with
      | nil => rfl
      | cons x xs =>
        have hm : x ∈ (l.reverse.dropWhile (cs.contains ·)).reverse := by rw [hx]; simp
        have hn := List.head?_dropWhile_not (cs.contains ·) l.reverse
        rw [hx] at hn
        simp only [List.head?_cons] at hn
        have := h x hm
        rw [hn] at this
        cases this
    rw [dropWhile_nil] at this
    intro c hc
    exact this c (by simpa using hc)
  · intro h c hc
    have : c ∈ l.reverse.dropWhile (cs.contains ·) := by simpa using hc
    exact h c (by simpa using (List.dropWhile_sublist _).mem this)
theorem dec_all : ∀ (l : List UInt8) (acc : Nat), (∀ c ∈ l, 48 ≤ c.toNat ∧ c.toNat ≤ 57) → ∃ v, Lib.decFrom acc l = some v := by
  intro l
  induction l with
  | nil => intro acc _; exact ⟨acc, rfl⟩
  | cons c r ih =>
    intro acc h
    simp only [Lib.decFrom, dig_of]
    rw [if_pos (h c (by simp))]
    exact ih _ fun x hx => h x (by simp [hx])
theorem dec_digs (l : List UInt8) (acc v : Nat) (h : Lib.decFrom acc l = some v) : ∀ c ∈ l, 48 ≤ c.toNat ∧ c.toNat ≤ 57 := by
  intro c hc
  obtain ⟨j, hj⟩ := List.getElem?_of_mem hc
  obtain ⟨d, hd⟩ := Lib.digit_of_decFrom l acc v h j c hj
  rw [dig_of] at hd
  split at hd
  · assumption
  · cases hd
theorem atoi_digs (l : List UInt8) (h1 : 1 ≤ l.length) (h18 : l.length ≤ 18) (v : Nat) (h : Lib.decFrom 0 l = some v) : Lib.atoiAll l = .ok (v : Int) := by
  rw [Lib.atoiAll_short l h18]
  cases l with
  | nil => simp at h1
  | cons c r =>
    have hc := dec_digs (c :: r) 0 v h c (by simp)
    have n45 : (c == 45) = false := by
      rw [beq_eq_false_iff_ne]; rintro rfl; exact absurd hc.1 (by decide)
    have n43 : (c == 43) = false := by
      rw [beq_eq_false_iff_ne]; rintro rfl; exact absurd hc.1 (by decide)
    simp only [Lib.atoi, n45, n43, Bool.false_eq_true, if_false, Lib.decNat, List.isEmpty_cons, h, Option.map_some]
    rfl
theorem dec_ge : ∀ (l : List UInt8) (acc n : Nat), Lib.decFrom acc l = some n → acc * 10 ^ l.length ≤ n := by
  intro l
  induction l with
  | nil => intro acc n h; simp only [Lib.decFrom, Option.some.injEq] at h; subst h; simp
  | cons c r ih =>
    intro acc n h
    simp only [Lib.decFrom, dig_of] at h
    split at h
    · rename_i v hv
      have := ih _ _ h
      rw [List.length_cons, Nat.pow_succ]
      refine Nat.le_trans ?_ this
      rw [Nat.mul_comm (10 ^ r.length) 10, ← Nat.mul_assoc]
      exact Nat.mul_le_mul_right _ (by omega)
    · cases h
theorem rdw_two (w : List UInt8) (n : Nat) (h : rdw w = some n) (hn : n ≤ 99) : w.length ≤ 2 := by
  unfold rdw at h
  split at h
  · rename_i hc
    cases w with
    | nil => simp
    | cons c r =>
      rcases Nat.lt_or_ge 1 r.length with h1 | h1
      · have h48 : c ≠ 48 := by
          rcases hc.2 with h | h
          · exact fun e => h (by rw [e]; rfl)
          · rw [List.length_cons] at h; omega
        have hd := dec_digs _ _ _ h c (by simp)
        have hc49 : 49 ≤ c.toNat := by
          rcases Nat.lt_or_ge c.toNat 49 with hlt | hge
          · exact absurd (UInt8.toNat_inj.1 (show c.toNat = (48 : UInt8).toNat from by have : (48 : UInt8).toNat = 48 := rfl; omega)) h48
          · exact hge
        simp only [Lib.decFrom, dig_of] at h
        rw [if_pos hd] at h
        have := dec_ge r _ n h
        have h10 : 10 ^ 2 ≤ 10 ^ r.length := Nat.pow_le_pow_right (by omega) (by omega)
        have : 1 * 10 ^ 2 ≤ n := Nat.le_trans (Nat.mul_le_mul (by omega) h10) this
        omega
      · simp; omega
  · cases h
theorem numR_ok (w : List UInt8) (h : (numR w 2).2 = true) : (numR w 2).1 = rdR w ∧ w.length ≤ 2 := by
  unfold numR at h ⊢
  split at h
  · rename_i hl
    rw [if_pos hl]
    unfold rdR; rw [if_pos (by omega)]
    cases hw : rdw w with
    | none => rw [hw] at h; cases h
    | some n => exact ⟨rfl, hl⟩
  · cases h
theorem numR_of (w : List UInt8) (h0 : 0 ≤ rdR w) (h1 : rdR w ≤ 99) : (numR w 2).2 = true := by
  unfold rdR at h0 h1
  split at h0
  · rename_i h6
    rw [if_pos h6] at h1
    cases hw : rdw w with
    | none => rw [hw] at h0; simp at h0
    | some n =>
      rw [hw] at h1
      have := rdw_two w n hw (by simp at h1; omega)
      unfold numR; rw [if_pos this, hw]
  · simp at h0
def okAll (ws : List (List UInt8)) : Bool := ws.all fun w => (numR w 2).2
theorem splL_small (c : UInt8) (l : List UInt8) : ∀ w ∈ splL c l, w.length ≤ l.length := by
  induction l with
  | nil => intro w hw; simp [splL] at hw; subst hw; simp
  | cons b l ih =>
    intro w hw
    unfold splL at hw
    by_cases h : b = c
    · rw [if_pos h] at hw
      rcases List.mem_cons.1 hw with rfl | hw
      · simp
      · have := ih w hw; simp; omega
    · rw [if_neg h] at hw
      cases hv : splL c l with
      | nil => exact absurd hv (splL_ne c l)
      | cons v r =>
        rw [hv] at hw ih
        rcases List.mem_cons.1 hw with rfl | hw
        · have := ih v (by simp); simp; omega
        · have := ih w (by simp [hw]); simp; omega
theorem count_le_size (c : UInt8) (s : ByteArray) : s.data.toList.count c ≤ s.size := by rw [← list_size]; exact List.count_le_length
theorem okAll_iff (ws : List (List UInt8)) : okAll ws = true ↔ ∀ w ∈ ws, (numR w 2).2 = true := by unfold okAll; rw [List.all_eq_true]
theorem lit_of (s : ByteArray) : lit s.data.toList = s := rfl
theorem splitB_is (c : UInt8) (k : Nat) (s : ByteArray) : Lib.splitB (lit [c]) 0 k s = (Lib.splitK [c] 0 k s.data.toList).map lit := by
  have := Lib.splitB_data (lit [c]) 0 k s
  rw [show (lit [c]).data.toList = [c] from rfl] at this
  rw [← this, List.map_map]
  rw [show (lit ∘ fun x : ByteArray => x.data.toList) = id from rfl, List.map_id]
theorem rdR_dig (n : Nat) (h : n < 100) : rdR (dig n) = (n : Int) := by
  have : ∀ n : Nat, n < 100 → rdR (dig n) = (n : Int) := by decide +kernel
  exact this n h
theorem dig_no (n : Nat) (h : n < 100) : ∀ b ∈ dig n, b ≠ 45 := by
  have : ∀ n : Nat, n < 100 → ∀ b ∈ dig n, b ≠ 45 := by decide +kernel
  exact this n h
theorem splL_app (c : UInt8) : ∀ (w l : List UInt8), (∀ b ∈ w, b ≠ c) → splL c (w ++ l) = headApp w (splL c l)
  | [], l, _ => (headApp_nil (splL_ne c l)).symm
  | b :: w, l, h => by
    have e : splL c (b :: (w ++ l)) = headApp [b] (splL c (w ++ l)) := by rw [splL, if_neg (h b (by simp))]
    show splL c (b :: (w ++ l)) = _
    rw [e, splL_app c w l (fun x hx => h x (by simp [hx])), headApp_app]
    rfl
theorem splL_txt : ∀ N : List Nat, N ≠ [] → (∀ n ∈ N, n < 100) → splL 45 (txt N) = N.map dig
  | [], h, _ => absurd rfl h
  | [n], _, h => by
    have := splL_app 45 (dig n) [] (dig_no n (h n (by simp)))
    rw [List.append_nil] at this
    show splL 45 (dig n) = _
    rw [this]; simp [splL, headApp]
  | n :: m :: N, _, h => by
    show splL 45 (dig n ++ 45 :: txt (m :: N)) = _
    rw [splL_app 45 (dig n) _ (dig_no n (h n (by simp)))]
    have e : splL 45 (45 :: txt (m :: N)) = [] :: splL 45 (txt (m :: N)) := by rw [splL, if_pos rfl]
    rw [e, splL_txt (m :: N) (by simp) (fun x hx => h x (by simp [hx]))]
    simp [headApp]
theorem rdw_text (w : List UInt8) (n : Nat) (h : rdw w = some n) (hn : n ≤ 99) : dig n = w := by
  have h2 := rdw_two w n h hn
  have hh := h
  unfold rdw at hh
  split at hh
  · rename_i hc
    match w, h2, hc, hh with
    | [c], _, _, hh =>
      simp only [Lib.decFrom, dig_of] at hh
      by_cases hd : 48 ≤ c.toNat ∧ c.toNat ≤ 57
      · rw [if_pos hd] at hh
        simp only [Lib.decFrom, Option.some.injEq] at hh
        subst hh
        unfold dig
        rw [if_pos (by omega), show 48 + (0 * 10 + (c.toNat - 48)) = c.toNat by omega, UInt8.ofNat_toNat]
      · rw [if_neg hd] at hh; cases hh
    | [c, e], _, hc, hh =>
      simp only [Lib.decFrom, dig_of] at hh
      by_cases hd : 48 ≤ c.toNat ∧ c.toNat ≤ 57
      · rw [if_pos hd] at hh
        by_cases he : 48 ≤ e.toNat ∧ e.toNat ≤ 57
        · simp only [if_pos he, Lib.decFrom, Option.some.injEq] at hh
          have hc48 : c ≠ 48 := by
            rcases hc.2 with h | h
            · exact fun x => h (by rw [x]; rfl)
            · simp at h
          have h49 : 49 ≤ c.toNat := by
            rcases Nat.lt_or_ge c.toNat 49 with hlt | hge
            · exact absurd (UInt8.toNat_inj.1 (show c.toNat = (48 : UInt8).toNat from by have : (48 : UInt8).toNat = 48 := rfl; omega)) hc48
            · exact hge
          subst hh
          unfold dig
          rw [if_neg (by omega), show 48 + ((0 * 10 + (c.toNat - 48)) * 10 + (e.toNat - 48)) / 10 = c.toNat by omega, UInt8.ofNat_toNat,
            show 48 + ((0 * 10 + (c.toNat - 48)) * 10 + (e.toNat - 48)) % 10 = e.toNat by omega, UInt8.ofNat_toNat]
        · rw [if_neg he] at hh; cases hh
      · rw [if_neg hd] at hh; cases hh
    | [], _, hc, _ => exact absurd hc.1 (by simp)
    | _ :: _ :: _ :: _, h2, _, _ => simp at h2
  · cases hh
theorem rdR_some (w : List UInt8) (h0 : 0 ≤ rdR w) (h1 : rdR w ≤ 99) : dig (rdR w).toNat = w := by
  unfold rdR at h0 h1 ⊢
  split at h0
  · rename_i h6
    rw [if_pos h6] at h1
    rw [if_pos h6]
    cases hw : rdw w with
    | none => rw [hw] at h0; simp at h0
    | some n =>
      rw [hw] at h1
      exact rdw_text w n hw (by simp at h1; omega)
  · simp at h0
theorem txt_jn : ∀ ws : List (List UInt8), (∀ w ∈ ws, 0 ≤ rdR w ∧ rdR w ≤ 99) → txt (ws.map fun w => (rdR w).toNat) = jnL 45 ws
  | [], _ => rfl
  | [w], h => rdR_some w (h w (by simp)).1 (h w (by simp)).2
  | w :: v :: r, h => by
    have ih := txt_jn (v :: r) (fun x hx => h x (by simp [hx]))
    simp only [List.map_cons] at ih ⊢
    simp only [txt, jnL]
    rw [rdR_some w (h w (by simp)).1 (h w (by simp)).2, ih]
/-- What a text of socks is. -/
def prsVal (s : ByteArray) : (List Int × Bool × Unit) × Unit := if good ((splL 45 s.data.toList).map rdR) = true then (((splL 45 s.data.toList).map rdR, true, ()), ()) else (([], false, ()), ())

/-! ### Numbers and pieces read -/
theorem byteAt_nat (s : ByteArray) (n : Nat) (c : UInt8) (h : s.data.toList[n]? = some c) : byteAt s (n : Int) = (c.toNat : Int) := by
  unfold byteAt
  rw [Int.toNat_natCast, List.getD_eq_getElem?_getD, h]; rfl
def rdRes : Option Nat → Option ((Int × Unit) ⊕ ((Int × Unit) × Unit))
  | some v => some (.inl ((v : Int), ()))
  | none => some (.inr (((-1), ()), ()))
noncomputable def readF (k : Nat) (s : ByteArray) (rec : (Int × Int × Unit) → Option ((Int × Unit) ⊕ ((Int × Unit) × Unit))) (x : Int × Int × Unit) : Option ((Int × Unit) ⊕ ((Int × Unit) × Unit)) := spec_l1Read_l2_b k s (fun x3 x4 => rec (x3, x4, ())) x.1 x.2.1
theorem read_loop (k : Nat) (s : ByteArray) (hs : s.size ≤ 6) : ∀ (d n acc i : Nat), n + d = s.size → d < i → acc < 10 ^ n →
    iter i (readF k s) ((acc : Int), (n : Int), ()) = rdRes (Lib.decFrom acc (s.data.toList.drop n)) := by
  intro d
  induction d with
  | zero =>
    intro n acc i hn hi ha
    obtain ⟨i, rfl⟩ : ∃ i', i = i' + 1 := ⟨i - 1, by omega⟩
    show readF k s _ _ = _
    rw [List.drop_eq_nil_of_le (by rw [list_size]; omega)]
    simp only [readF, spec_l1Read_l2_b]
    rw [cond_dec, if_neg (by omega)]
    rfl
  | succ d ih =>
    intro n acc i hn hi ha
    obtain ⟨i, rfl⟩ : ∃ i', i = i' + 1 := ⟨i - 1, by omega⟩
    show readF k s _ _ = _
    have hlt : n < s.data.toList.length := by rw [list_size]; omega
    have hd : s.data.toList.drop n = s.data.toList[n] :: s.data.toList.drop (n + 1) := List.drop_eq_getElem_cons hlt
    have hb : byteAt s (n : Int) = ((s.data.toList[n]).toNat : Int) := byteAt_nat s n _ (List.getElem?_eq_getElem hlt)
    rw [hd]
    generalize s.data.toList[n] = c at hb
    have h5 : acc < 100000 := Nat.lt_of_lt_of_le ha (Nat.le_trans (Nat.pow_le_pow_right (n := 10) (by omega) (show n ≤ 5 by omega)) (by decide))
    have hq := fun h => pow_step acc c.toNat n ha h
    clear ha
    simp only [readF, spec_l1Read_l2_b, hb, Lib.decFrom, dig_of]
    rw [cond_dec, if_pos (by omega), ixk_in (by omega) (by omega), cond_dec]
    by_cases h1 : (c.toNat : Int) < 48
    · rw [if_pos h1, if_neg (show ¬ (48 ≤ c.toNat ∧ c.toNat ≤ 57) by omega)]
      rfl
    · rw [if_neg h1, ixk_in (by omega) (by omega)]
      simp only [met_inl]
      rw [cond_dec]
      by_cases h2 : (c.toNat : Int) > 57
      · rw [if_pos h2, if_neg (show ¬ (48 ≤ c.toNat ∧ c.toNat ≤ 57) by omega)]
        rfl
      · rw [if_neg h2, if_pos (show 48 ≤ c.toNat ∧ c.toNat ≤ 57 by omega), ixk_in (by omega) (by omega)]
        have e : iw (iw (10 * (acc : Int)) + iw (IntKind.wrap .u8 ((c.toNat : Int) - 48))) = ((acc * 10 + (c.toNat - 48) : Nat) : Int) := by
          rw [show ((c.toNat : Int) - 48) = ((c.toNat - 48 : Nat) : Int) by omega, wrap_u8 _ (by omega), iw_id (x := 10 * (acc : Int)) (by omega) (by omega), iw_id (x := ((c.toNat - 48 : Nat) : Int)) (by omega) (by omega), iw_id (by omega) (by omega)]
          omega
        rw [e, iw_nat (by omega)]
        exact ih (n + 1) (acc * 10 + (c.toNat - 48)) i (by omega) (by omega) (hq (by omega))
theorem byte_head (s : ByteArray) (h : 0 < s.size) : ∃ c, s.data.toList.head? = some c ∧ byteAt s 0 = (c.toNat : Int) := by
  have hlt : 0 < s.data.toList.length := by rw [list_size]; exact h
  refine ⟨s.data.toList[0], ?_, byteAt_nat s 0 _ (List.getElem?_eq_getElem hlt)⟩
  rw [List.head?_eq_getElem?, List.getElem?_eq_getElem hlt]
theorem is48 (c : UInt8) : ((c.toNat : Int) = 48) ↔ c = 48 := by
  constructor
  · intro h; apply UInt8.toNat_inj.1; show c.toNat = 48; omega
  · rintro rfl; rfl
def lead (s : ByteArray) : Bool := decide (s.data.toList.head? = some 48) && decide (1 < s.size)
theorem lead_is {β : Type} (s : ByteArray) (h : 0 < s.size) : cond (byteAt s 0 == 48) (some (.inl (decide ((s.size : Int) > 1), ()))) (some (.inl (false, ()))) = (some (.inl (lead s, ())) : Option ((Bool × Unit) ⊕ β)) := by
  obtain ⟨c, hc, hb⟩ := byte_head s h
  unfold lead
  rw [hb, hc]
  by_cases h48 : c = 48
  · rw [show ((c.toNat : Int) == 48) = true from beq_iff_eq.2 ((is48 c).2 h48), h48]
    simp; omega
  · rw [show ((c.toNat : Int) == 48) = false from beq_eq_false_iff_ne.2 (fun x => h48 ((is48 c).1 x)), show decide (some c = some (48 : UInt8)) = false from decide_eq_false (fun x => h48 (Option.some.inj x))]
    simp
theorem rdw_lead (s : ByteArray) : rdw s.data.toList = if 1 ≤ s.size ∧ lead s = false then Lib.decFrom 0 s.data.toList else none := by
  unfold rdw
  rw [list_size]
  have : (s.data.toList.head? ≠ some 48 ∨ s.size ≤ 1) ↔ lead s = false := by
    unfold lead
    rw [Bool.and_eq_false_iff, decide_eq_false_iff_not, decide_eq_false_iff_not]
    constructor
    · rintro (h | h)
      · exact .inl h
      · exact .inr (by omega)
    · rintro (h | h)
      · exact .inl h
      · exact .inr (by omega)
  simp only [this]
theorem l1Read_is (k : Nat) (hk : 100 ≤ k) (s : ByteArray) (hs : s.size ≤ 1000) : spec_l1Read_f k s = some ((rdR s.data.toList, ()), ()) := by
  have hl := list_size s
  unfold spec_l1Read_f
  rw [l1In_is]
  simp only [Option.bind_some]
  unfold rdR
  rw [rdw_lead, hl]
  by_cases h1 : 1 ≤ s.size
  · by_cases h6 : s.size ≤ 6
    · rw [decide_eq_true (show (1 : Int) ≤ (s.size : Int) by omega), decide_eq_true (show (s.size : Int) ≤ 6 by omega)]
      simp only [Bool.and_self, Bool.not_true, cond_false]
      rw [chk_dec (by omega), lead_is s (by omega), if_pos h6]
      cases hz : lead s with
      | true => rw [if_neg (by simp)]; rfl
      | false =>
        rw [if_pos ⟨h1, rfl⟩]
        simp only [met_inl, cond_false]
        have := read_loop k s h6 s.size 0 0 k (by omega) (by omega) (by omega)
        rw [List.drop_zero] at this
        rw [show spec_l1Read_l2 k s 0 0 = iter k (readF k s) (((0 : Nat) : Int), ((0 : Nat) : Int), ()) from rfl, this]
        cases Lib.decFrom 0 s.data.toList <;> rfl
    · rw [decide_eq_false (show ¬ (s.size : Int) ≤ 6 by omega), Bool.and_false, if_neg h6]
      rfl
  · rw [decide_eq_false (show ¬ (1 : Int) ≤ (s.size : Int) by omega), Bool.false_and, if_pos (by omega), if_neg (by omega)]
    rfl
theorem number_is (k : Nat) (s : ByteArray) (d : Nat) (hd : 1 ≤ d) (h6 : d ≤ 6) (hs : s.size ≤ 1000) : impl_number_f k s (d : Int) = some (((numR s.data.toList d).1, (numR s.data.toList d).2, ()), ()) := by
  have hl := list_size s
  unfold impl_number_f
  rw [within_is]
  simp only [Option.bind_some]
  unfold numR
  rw [rdw_lead, hl]
  by_cases h1 : 1 ≤ s.size
  · by_cases h6' : s.size ≤ d
    · rw [decide_eq_true (show (1 : Int) ≤ (s.size : Int) by omega), decide_eq_true (show (s.size : Int) ≤ (d : Int) by omega)]
      simp only [Bool.and_self, Bool.not_true, cond_false]
      rw [if_pos h6']
      have ht : strings_Trim_f k s (lit [48, 49, 50, 51, 52, 53, 54, 55, 56, 57]) = some ((lit (Lib.trimS s.data.toList [48, 49, 50, 51, 52, 53, 54, 55, 56, 57]), ()), ()) := by
        unfold strings_Trim_f trimL
        rw [decide_eq_true (show s.size ≤ 9223372036854775807 by omega), lit_list, show decide ((lit [48, 49, 50, 51, 52, 53, 54, 55, 56, 57]).size < 4294967281) = true by rw [lit_size]; decide]
        rfl
      rw [ht]
      simp only [Option.bind_some, Go.ByteArray.toList_eq, lit_list]
      cases hv : Lib.decFrom 0 s.data.toList with
      | none =>
        have hn : ¬ (Lib.trimS s.data.toList [48, 49, 50, 51, 52, 53, 54, 55, 56, 57] = []) := by
          rw [trimS_nil]
          intro h
          obtain ⟨v, hv'⟩ := dec_all s.data.toList 0 (fun c hc => by have := h c hc; rw [digs_has] at this; exact of_decide_eq_true this)
          rw [hv] at hv'; cases hv'
        rw [show (Lib.trimS s.data.toList [48, 49, 50, 51, 52, 53, 54, 55, 56, 57] == ByteArray.empty.data.toList) = false from beq_eq_false_iff_ne.2 hn, ite_self]
        rfl
      | some v =>
        have hy : Lib.trimS s.data.toList [48, 49, 50, 51, 52, 53, 54, 55, 56, 57] = [] := by
          rw [trimS_nil]
          intro c hc
          rw [digs_has]
          exact decide_eq_true (dec_digs _ _ _ hv c hc)
        rw [show (Lib.trimS s.data.toList [48, 49, 50, 51, 52, 53, 54, 55, 56, 57] == ByteArray.empty.data.toList) = true from beq_iff_eq.2 hy]
        simp only [Bool.not_true, cond_false]
        rw [chk_dec (by omega), lead_is s (by omega)]
        cases hz : lead s with
        | true => rw [if_neg (by simp)]; rfl
        | false =>
          rw [if_pos ⟨h1, rfl⟩]
          simp only [met_inl, cond_false]
          unfold strconv_Atoi_f atoiL
          rw [chk_dec (by omega), atoi_digs _ (by omega) (by omega) v hv]
          rfl
    · rw [decide_eq_false (show ¬ (s.size : Int) ≤ (d : Int) by omega), Bool.and_false, if_neg h6']
      rfl
  · rw [decide_eq_false (show ¬ (1 : Int) ≤ (s.size : Int) by omega), Bool.false_and, if_pos (by omega), if_neg (by omega)]
    rfl

/-! ### A text of socks read -/
abbrev SplR := ((List ByteArray) × Int × Unit) ⊕ (((List ByteArray) × Unit) × Unit)
noncomputable def splF (k : Nat) (s : ByteArray) (c : Int) (rec : ((List ByteArray) × Int × Int × Unit) → Option SplR) (x : (List ByteArray) × Int × Int × Unit) : Option SplR := spec_l1Split_l1_b k s c (fun x5 x6 x7 => rec (x5, x6, x7, ())) x.1 x.2.1 x.2.2.1
noncomputable def splG (s : ByteArray) (j4 : (List ByteArray) × Int × Unit) : Option (((List ByteArray) × Unit) × Unit) :=
  (chk (decide (0 ≤ j4.2.1)) (chk (decide (j4.2.1 ≤ ((ByteArray.size s : Nat) : Int))) (chk (decide (List.length j4.1 + List.length [(ByteArray.extract s (Int.toNat j4.2.1) (ByteArray.size s))] ≤ 8278675785607)) (some (((j4.1 ++ [(ByteArray.extract s (Int.toNat j4.2.1) (ByteArray.size s))]), ()), ())))))
theorem ext_is (s : ByteArray) (a b : Nat) : s.extract a b = lit ((s.data.toList.take b).drop a) := by
  rw [← lit_of (s.extract a b), Lib.extract_data, ← List.drop_take]
theorem split_loop (k : Nat) (c : UInt8) (s : ByteArray) (hs : s.size ≤ 1000) : ∀ (d n fr i : Nat) (out : List ByteArray), n + d = s.size → fr ≤ n → out.length ≤ n → d < i →
    met (iter i (splF k s (c.toNat : Int)) (out, (fr : Int), (n : Int), ())) (splG s) = some (((out ++ (headApp ((s.data.toList.take n).drop fr) (splL c (s.data.toList.drop n))).map lit), ()), ()) := by
  have hl := list_size s
  intro d
  induction d with
  | zero =>
    intro n fr i out hn hf ho hi
    obtain ⟨i, rfl⟩ : ∃ i', i = i' + 1 := ⟨i - 1, by omega⟩
    show met (splF k s (c.toNat : Int) _ _) _ = _
    simp only [splF, spec_l1Split_l1_b]
    rw [cond_dec, if_neg (by omega)]
    simp only [met_inl, splG]
    rw [chk_dec (by omega), chk_dec (by omega), chk_dec (by simp; omega), Int.toNat_natCast, ext_is]
    have hz : s.data.toList.drop n = [] := List.drop_eq_nil_of_le (by omega)
    have ht : s.data.toList.take n = s.data.toList.take s.size := by rw [show n = s.size by omega]
    rw [hz, ht]
    simp [splL, headApp]
  | succ d ih =>
    intro n fr i out hn hf ho hi
    obtain ⟨i, rfl⟩ : ∃ i', i = i' + 1 := ⟨i - 1, by omega⟩
    show met (splF k s (c.toNat : Int) _ _) _ = _
    have hlt : n < s.data.toList.length := by omega
    have hb : byteAt s (n : Int) = ((s.data.toList[n]).toNat : Int) := byteAt_nat s n _ (List.getElem?_eq_getElem hlt)
    have hd : s.data.toList.drop n = s.data.toList[n] :: s.data.toList.drop (n + 1) := List.drop_eq_getElem_cons hlt
    simp only [splF, spec_l1Split_l1_b]
    rw [cond_dec, if_pos (by omega), ixk_in (by omega) (by omega), hb]
    by_cases hc : s.data.toList[n] = c
    · rw [show (((s.data.toList[n]).toNat : Int) == (c.toNat : Int)) = true from beq_iff_eq.2 (by rw [hc]), cond_true, chk_dec (by omega), chk_dec (by omega), chk_dec (by omega), chk_dec (by omega), chk_dec (by simp; omega), Int.toNat_natCast, Int.toNat_natCast, iw_nat (by omega)]
      simp only [met_inl]
      have := ih (n + 1) (n + 1) i (out ++ [s.extract fr n]) (by omega) (by omega) (by simp; omega) (by omega)
      rw [hd]
      have e : splL c (s.data.toList[n] :: s.data.toList.drop (n + 1)) = [] :: splL c (s.data.toList.drop (n + 1)) := by rw [splL, if_pos hc]
      rw [e]
      rw [List.drop_eq_nil_of_le (by simp; omega), headApp_nil (splL_ne c _), ext_is] at this
      rw [ext_is]
      refine Eq.trans this ?_
      simp [headApp]
    · rw [show (((s.data.toList[n]).toNat : Int) == (c.toNat : Int)) = false from beq_eq_false_iff_ne.2 (fun e => hc (UInt8.toNat_inj.1 (by omega))), cond_false, iw_nat (by omega)]
      simp only [met_inl]
      have := ih (n + 1) fr i out (by omega) (by omega) (by omega) (by omega)
      rw [hd]
      have e : splL c (s.data.toList[n] :: s.data.toList.drop (n + 1)) = headApp [s.data.toList[n]] (splL c (s.data.toList.drop (n + 1))) := by rw [splL, if_neg hc]
      rw [e, headApp_app]
      rw [List.take_succ_eq_append_getElem hlt, List.drop_append_of_le_length (by simp; omega)] at this
      exact this
theorem l1Split_is (k : Nat) (hk : 2000 ≤ k) (c : UInt8) (s : ByteArray) (hs : s.size ≤ 1000) : spec_l1Split_f k s (c.toNat : Int) = some (((splL c s.data.toList).map lit, ()), ()) := by
  have := split_loop k c s hs s.size 0 0 k [] (by omega) (by omega) (by simp) (by omega)
  simp only [List.take_zero, List.drop_zero, List.drop_nil, List.nil_append] at this
  rw [headApp_nil (splL_ne c _)] at this
  exact this
theorem rdG_lit (ws : List (List UInt8)) (n : Nat) (h : n < ws.length) : rdG ByteArray.empty (ws.map lit) (n : Int) = lit ws[n] := by
  rw [rdG_nat _ _ n (by simpa using h)]; simp
theorem soGood_w (k : Nat) (hk : 2000 ≤ k) (S : List Int) (h : S.length ≤ 1000) : spec_soGood_f k S = some ((good S, ()), ()) := by
  unfold spec_soGood_f good
  simp only [l1In_is, Option.bind_some, l1All_is k S 0 20 (by omega) (by omega), soSum_is k S (by omega) (by omega)]
  cases (decide (1 ≤ (S.length : Int)) && decide ((S.length : Int) ≤ 8)) with
  | false => rfl
  | true =>
    cases allIn 0 20 S <;> rfl
theorem soParse_loop (k : Nat) (hk : 2000 ≤ k) (ws : List (List UInt8)) (hw : ws.length ≤ 1000) (hs : ∀ w ∈ ws, w.length ≤ 1000) : spec_soParse_l1 k ((ws.map lit, ()), ()) [] (ws.map lit) 0 = some (.inl (ws.map rdR, ())) := by
  unfold spec_soParse_l1
  refine iter_to (fun j => ((ws.take j).map rdR, ws.map lit, (j : Int), ())) ws.length _ (fun j hj rec => ?_) (fun rec => ?_) k (by omega)
  · simp only [spec_soParse_l1_b]
    rw [cond_dec, if_pos (by rw [List.length_map]; omega), ixk_in (by omega) (by rw [List.length_map]; omega), rdG_lit ws j hj, l1Read_is k (by omega) _ (by rw [lit_size]; exact hs _ (List.getElem_mem hj))]
    simp only [Option.bind_some, lit_list]
    rw [chk_dec (by simp; omega), iw_nat (by omega), List.take_succ_eq_append_getElem hj, List.map_append]
    rfl
  · simp only [spec_soParse_l1_b]
    rw [cond_dec, if_neg (by rw [List.length_map]; omega), List.take_of_length_le (by omega)]
theorem specParse_is (k : Nat) (hk : 2000 ≤ k) (s : ByteArray) (hs : s.size ≤ 23) : spec_ParseSocks_f k s = some (prsVal s) := by
  have hl := list_size s
  have hcl := count_le_size 45 s
  have hlen := splL_len 45 s.data.toList
  unfold spec_ParseSocks_f spec_soParse_f
  rw [cond_dec, if_neg (by omega), show (45 : Int) = ((45 : UInt8).toNat : Int) from rfl, l1Split_is k hk 45 s (by omega)]
  simp only [Option.bind_some]
  rw [soParse_loop k hk _ (by omega) (fun w hw => by have := splL_small 45 _ w hw; omega)]
  simp only [met_inl]
  rw [soGood_w k hk _ (by simp; omega)]
  unfold prsVal
  cases hg : good ((splL 45 s.data.toList).map rdR) <;> rfl
def prtRes (ws : List (List UInt8)) : Bool → Option (((List Int) × Unit) ⊕ (((List Int) × Bool × Unit) × Unit))
  | true => some (.inl (ws.map rdR, ()))
  | false => some (.inr (([], false, ()), ()))
theorem okAll_cons (w : List UInt8) (r : List (List UInt8)) : okAll (w :: r) = ((numR w 2).2 && okAll r) := rfl
theorem parted_loop (k : Nat) (hk : 2000 ≤ k) (ws : List (List UInt8)) (hw : ws.length ≤ 1000) (hs : ∀ w ∈ ws, w.length ≤ 1000) : impl_parted_l1 k ((ws.map lit, ()), ()) [] (ws.map lit) 0 = prtRes ws (okAll ws) := by
  unfold impl_parted_l1
  refine iter_up (fun j => ((ws.take j).map rdR, ws.map lit, (j : Int), ())) (fun j => prtRes ws (okAll (ws.drop j))) ws.length (fun j hj => ?_) k 0 (Nat.zero_le _) (by omega)
  rcases Nat.lt_or_ge j ws.length with h1 | h1
  · have e := number_is k (lit ws[j]) 2 (by omega) (by omega) (by rw [lit_size]; exact hs _ (List.getElem_mem h1))
    rw [lit_list] at e
    rw [List.drop_eq_getElem_cons h1, okAll_cons]
    cases ho : (numR ws[j] 2).2 with
    | true =>
      refine .inr ⟨h1, by rw [Bool.true_and], fun rec => ?_⟩
      simp only [impl_parted_l1_b]
      rw [cond_dec, if_pos (by rw [List.length_map]; omega), ixk_in (by omega) (by rw [List.length_map]; omega), rdG_lit ws j h1, show (2 : Int) = ((2 : Nat) : Int) from rfl, e]
      simp only [Option.bind_some, ho, Bool.not_true, cond_false]
      rw [chk_dec (by simp; omega), iw_nat (by omega), (numR_ok _ ho).1, List.take_succ_eq_append_getElem h1, List.map_append]
      rfl
    | false =>
      refine .inl fun rec => ?_
      simp only [impl_parted_l1_b]
      rw [cond_dec, if_pos (by rw [List.length_map]; omega), ixk_in (by omega) (by rw [List.length_map]; omega), rdG_lit ws j h1, show (2 : Int) = ((2 : Nat) : Int) from rfl, e]
      simp only [Option.bind_some, ho, Bool.not_false, cond_true]
      rfl
  · refine .inl fun rec => ?_
    simp only [impl_parted_l1_b]
    rw [cond_dec, if_neg (by rw [List.length_map]; omega), List.take_of_length_le (by omega), List.drop_eq_nil_of_le (by omega)]
    rfl
theorem implParse_is (k : Nat) (hk : 2000 ≤ k) (s : ByteArray) (hs : s.size ≤ 23) : impl_ParseSocks_f k s = some (prsVal s) := by
  have hl := list_size s
  have hcl := count_le_size 45 s
  have hlen := splL_len 45 s.data.toList
  have hK := splitK_len 45 s.data.toList (min 9 (s.size + 1) - 1)
  have hsp : strings_SplitN_f k s (lit [45]) (iw (8 + 1)) = some ((((Lib.splitK [45] 0 (min 9 (s.size + 1) - 1) s.data.toList).map lit), ()), ()) := by
    unfold strings_SplitN_f splitNL
    rw [iw_id (by omega) (by omega), splitB_is, lit_size, decide_eq_true (show s.size < 4294967281 by omega)]
    rfl
  unfold impl_ParseSocks_f impl_parted_f
  rw [hsp]
  simp only [Option.bind_some, List.length_map]
  unfold prsVal
  by_cases hle : (splL 45 s.data.toList).length ≤ 8
  · have he := splitK_is 45 s.data.toList (min 9 (s.size + 1) - 1) (by omega)
    rw [he, cond_dec, if_neg (by omega)]
    rw [parted_loop k hk _ (by omega) (fun w hw => by have := splL_small 45 _ w hw; omega)]
    cases ho : okAll (splL 45 s.data.toList) with
    | true =>
      simp only [prtRes, met_inl, Option.bind_some, Bool.not_true, cond_false]
      rw [areSocks_is k (by omega) _ (by simp; omega)]
      cases hg : good ((splL 45 s.data.toList).map rdR) <;> rfl
    | false =>
      rw [if_neg]
      · rfl
      · intro hg
        have G := good_is hg
        rw [(okAll_iff _).2 fun w hw => by
          have := G.inS _ (List.mem_map_of_mem hw)
          exact numR_of w this.1 (by omega)] at ho
        cases ho
  · rw [cond_dec, if_pos (by rw [hK]; omega), if_neg]
    · rfl
    · intro hg
      have G := (good_is hg).l8
      rw [List.length_map] at G
      omega
/-- What is told is read back. -/
theorem nats_map (ws : List (List UInt8)) : nats' (ws.map rdR) = ws.map fun w => (rdR w).toNat := by
  unfold nats'; rw [List.map_map]; rfl
theorem text_parse (s : ByteArray) (h : good ((splL 45 s.data.toList).map rdR) = true) : lit (txt (nats' ((splL 45 s.data.toList).map rdR))) = s := by
  rw [nats_map, txt_jn _ (fun w hw => by
    have := (good_is h).inS _ (List.mem_map_of_mem hw)
    exact ⟨this.1, by omega⟩), jnL_spl, lit_of]
theorem parse_text {S : List Int} (h : good S = true) : prsVal (lit (txt (nats' S))) = ((S, true, ()), ()) := by
  have G := good_is h
  have hN : nats' S ≠ [] := by
    intro e
    have := nats_len S
    rw [e] at this
    have := G.l0
    simp at *
    omega
  have hn : ∀ n ∈ nats' S, n < 100 := fun n hn => by
    obtain ⟨x, hx, rfl⟩ := List.mem_map.1 hn
    have := G.inS x hx
    omega
  have e : (splL 45 (lit (txt (nats' S))).data.toList).map rdR = S := by
    rw [lit_list, splL_txt _ hN hn, List.map_map]
    unfold nats'
    rw [List.map_map]
    refine Eq.trans (List.map_congr_left fun x hx => ?_) (List.map_id _)
    have := G.inS x hx
    show rdR (dig x.toNat) = x
    rw [rdR_dig _ (by omega)]
    omega
  unfold prsVal
  rw [e, if_pos h]
theorem text_size {S : List Int} (h : good S = true) : (lit (txt (nats' S))).size ≤ 23 := by
  have G := good_is h
  rw [lit_size]
  have hz : ∀ N : List Nat, N ≠ [] → (txt N).length + 1 ≤ 3 * N.length := by
    intro N
    induction N with
    | nil => intro h; exact absurd rfl h
    | cons n r ih =>
      intro _
      have := dig_len n
      cases r with
      | nil => simp only [txt, List.length_cons, List.length_nil]; omega
      | cons m r =>
        have := ih (by simp)
        simp only [txt, List.length_append, List.length_cons] at this ⊢
        omega
  have hN : nats' S ≠ [] := by
    intro e
    have := nats_len S
    rw [e] at this
    have := G.l0
    simp at *
    omega
  have := hz _ hN
  have := nats_len S
  have := G.l8
  omega

noncomputable def sdLeft (k : Nat) (y83 : (List Int × List Int × Unit) × Unit) (y101 : (Int × Bool × Unit) × Unit) (y113 : (List Int × Bool × Unit) × Unit) (j1 : List Int × List Int × Bool × Unit) : Option (Unit ⊕ ((Bool × Unit) × Unit)) :=
  (cond y101.1.2.1 (Option.bind (impl_CountSocks_f k y83.1.1) (fun y198 => (met (cond (!y198.1.2.1) (some (.inl (true, ()))) (Option.bind (laws_zSum_f k j1.1) (fun y206 => (some (.inl ((!(y113.1.2.1 == (decide (y206.1.1 < y198.1.1)))), ())))))) (fun j2 => (cond j2.1 (some (.inr ((false, ()), ()))) (met (cond y113.1.2.1 (met (laws_FnSocksDrawn_l3 k y83 j1 0) (fun j4 => (Option.bind (laws_zSum_f k j1.1) (fun y233 => (met (cond (decide (y233.1.1 > 0)) (Option.bind (impl_AddSocks_f k j1.2.1 j1.1) (fun y238 => (met (cond (!y238.1.2.1) (some (.inl (true, ()))) (Option.bind (laws_zSame_f k y238.1.1 y83.1.1) (fun y246 => (some (.inl ((!y246.1.1), ())))))) (fun j5 => (cond j5.1 (some (.inr (.inr (.inr ((false, ()), ()))))) (some (.inl ()))))))) (some (.inl ()))) (fun j6 => (some (.inl ())))))))) (some (.inl ()))) (fun j7 => (some (.inl ()))))))))) (some (.inl ())))
noncomputable def sdRank (k : Nat) (y83 : (List Int × List Int × Unit) × Unit) (y89 : (Int × Bool × Unit) × Unit) (j1 : List Int × List Int × Bool × Unit) : Option (Unit ⊕ ((Bool × Unit) × Unit)) :=
  (cond y89.1.2.1 (Option.bind (laws_zSum_f k j1.1) (fun y253 => (Option.bind (impl_DrawOfRank_f k y83.1.1 y253.1.1 y89.1.1) (fun y255 => (Option.bind (laws_zSum_f k j1.1) (fun y261 => (Option.bind (impl_CountDraws_f k y83.1.1 y261.1.1) (fun y262 => (met (cond (!y255.1.2.1) (some (.inl (true, ()))) (Option.bind (laws_zSame_f k y255.1.1 j1.1) (fun y270 => (cond (!y270.1.1) (some (.inl (true, ()))) (cond (!y262.1.2.1) (some (.inl (true, ()))) (cond (decide (y89.1.1 < 0)) (some (.inl (true, ()))) (some (.inl ((decide (y89.1.1 ≥ y262.1.1)), ()))))))))) (fun j9 => (cond j9.1 (some (.inr ((false, ()), ()))) (some (.inl ()))))))))))))) (some (.inl ())))
noncomputable def sdCnt (k : Nat) (y288 : (List Int × Int × Int × Unit) × Unit) (y296 : (Int × Bool × Unit) × Unit) (y309 : (Int × Bool × Unit) × Unit) (j11 : List Int × List Int × List Int × List Int × List Int × Bool × Unit) (j12 : Bool × Unit) : Option (Unit ⊕ ((Bool × Unit) × Unit)) :=
  (cond j12.1 (met (laws_FnSocksDrawn_l13 k y288 j11 0 0) (fun j14 => (met (cond (j14.1 != y309.1.1) (some (.inl (true, ()))) (some (.inl ((decide (y296.1.1 > y309.1.1)), ())))) (fun j15 => (cond j15.1 (some (.inr ((false, ()), ()))) (some (.inl ()))))))) (some (.inl ())))
noncomputable def sdMade (k : Nat) (y320 : (List Int × Int × Int × Unit) × Unit) (y328 : (List Int × Bool × Unit) × Unit) (j11 : List Int × List Int × List Int × List Int × List Int × Bool × Unit) : Option (Unit ⊕ ((Bool × Unit) × Unit)) :=
  (cond y328.1.2.1 (Option.bind (impl_RankOfDraw_f k j11.2.1 j11.2.2.1) (fun y482 => (met (Option.bind (laws_zSum_f k j11.2.2.1) (fun y486 => (cond (y486.1.1 != y320.1.2.1) (some (.inl (true, ()))) (cond (!y482.1.2.1) (some (.inl (true, ()))) (some (.inl ((y482.1.1 != y320.1.2.2.1), ()))))))) (fun j17 => (cond j17.1 (some (.inr ((false, ()), ()))) (met (cond (decide (y320.1.2.2.1 > 0)) (Option.bind (impl_DrawOfRank_f k j11.2.1 y320.1.2.1 (iw (y320.1.2.2.1 - 1))) (fun y505 => (met (cond (!y505.1.2.1) (some (.inl (true, ()))) (Option.bind (laws_zBefore_f k y505.1.1 j11.2.2.1) (fun y513 => (cond (!y513.1.1) (some (.inl (true, ()))) (Option.bind (laws_zSame_f k y505.1.1 j11.2.2.1) (fun y519 => (some (.inl (y519.1.1, ()))))))))) (fun j18 => (cond j18.1 (some (.inr (.inr ((false, ()), ())))) (some (.inl ()))))))) (some (.inl ()))) (fun j19 => (some (.inl ()))))))))) (some (.inl ())))
noncomputable def sdText (k : Nat) (y359 : (ByteArray × Bool × Unit) × Unit) (j11 : List Int × List Int × List Int × List Int × List Int × Bool × Unit) : Option (Unit ⊕ ((Bool × Unit) × Unit)) :=
  (cond y359.1.2.1 (Option.bind (impl_ParseSocks_f k y359.1.1) (fun y524 => (met (cond (!y524.1.2.1) (some (.inl (true, ()))) (Option.bind (laws_zSame_f k y524.1.1 j11.2.2.2.1) (fun y532 => (some (.inl ((!y532.1.1), ())))))) (fun j21 => (cond j21.1 (some (.inr ((false, ()), ()))) (some (.inl ()))))))) (some (.inl ())))
noncomputable def sdRead (k : Nat) (y368 : (ByteArray × Unit) × Unit) (y371 : (List Int × Bool × Unit) × Unit) (j11 : List Int × List Int × List Int × List Int × List Int × Bool × Unit) : Option (((Bool × Unit) × Unit)) :=
  (cond y371.1.2.1 (Option.bind (impl_SocksText_f k j11.2.2.2.2.1) (fun y538 => (met (cond y538.1.2.1 (some (.inl ((y538.1.1.toList == y368.1.1.toList), ()))) (some (.inl (false, ())))) (fun j23 => (some ((j23.1, ()), ())))))) (some ((true, ()), ())))
noncomputable def law3_f (k : Nat) (p1 : List Int) : Option (((Bool × Unit) × Unit)) :=
  (Option.bind (spec_DrawCountPairDraws_f k p1) (fun y288 => (Option.bind (impl_CountPairDraws_f k y288.1.1 y288.1.2.1 y288.1.2.2.1) (fun y296 => (Option.bind (spec_CountPairDraws_f k y288.1.1 y288.1.2.1 y288.1.2.2.1) (fun y303 => (Option.bind (impl_CountDraws_f k y288.1.1 y288.1.2.1) (fun y309 => (Option.bind (spec_CountDraws_f k y288.1.1 y288.1.2.1) (fun y315 => (Option.bind (spec_DrawDrawOfRank_f k p1) (fun y320 => (Option.bind (impl_DrawOfRank_f k y320.1.1 y320.1.2.1 y320.1.2.2.1) (fun y328 => (Option.bind (spec_DrawOfRank_f k y320.1.1 y320.1.2.1 y320.1.2.2.1) (fun y335 => (Option.bind (spec_DrawAddSocks_f k p1) (fun y340 => (Option.bind (impl_AddSocks_f k y340.1.1 y340.1.2.1) (fun y346 => (Option.bind (spec_AddSocks_f k y340.1.1 y340.1.2.1) (fun y352 => (Option.bind (spec_DrawSocksText_f k p1) (fun y356 => (Option.bind (impl_SocksText_f k y356.1.1) (fun y359 => (Option.bind (spec_SocksText_f k y356.1.1) (fun y364 => (Option.bind (spec_DrawParseSocks_f k p1) (fun y368 => (Option.bind (impl_ParseSocks_f k y368.1.1) (fun y371 => (Option.bind (spec_ParseSocks_f k y368.1.1) (fun y376 => (met (cond (!(y296.1.2.1 == y303.1.2.1)) (some (.inl (y288.1.1, y320.1.1, y328.1.1, y356.1.1, y371.1.1, true, ()))) (cond (y296.1.1 != y303.1.1) (some (.inl (y288.1.1, y320.1.1, y328.1.1, y356.1.1, y371.1.1, true, ()))) (cond (!(y309.1.2.1 == y315.1.2.1)) (some (.inl (y288.1.1, y320.1.1, y328.1.1, y356.1.1, y371.1.1, true, ()))) (cond (y309.1.1 != y315.1.1) (some (.inl (y288.1.1, y320.1.1, y328.1.1, y356.1.1, y371.1.1, true, ()))) (cond (!(y328.1.2.1 == y335.1.2.1)) (some (.inl (y288.1.1, y320.1.1, y328.1.1, y356.1.1, y371.1.1, true, ()))) (Option.bind (laws_zSame_f k y328.1.1 y335.1.1) (fun y405 => (cond (!y405.1.1) (some (.inl (y288.1.1, y320.1.1, y328.1.1, y356.1.1, y371.1.1, true, ()))) (cond (!(y346.1.2.1 == y352.1.2.1)) (some (.inl (y288.1.1, y320.1.1, y328.1.1, y356.1.1, y371.1.1, true, ()))) (Option.bind (laws_zSame_f k y346.1.1 y352.1.1) (fun y416 => (cond (!y416.1.1) (some (.inl (y288.1.1, y320.1.1, y328.1.1, y356.1.1, y371.1.1, true, ()))) (cond (!(y359.1.2.1 == y364.1.2.1)) (some (.inl (y288.1.1, y320.1.1, y328.1.1, y356.1.1, y371.1.1, true, ()))) (cond (!(y359.1.1.toList == y364.1.1.toList)) (some (.inl (y288.1.1, y320.1.1, y328.1.1, y356.1.1, y371.1.1, true, ()))) (cond (!(y371.1.2.1 == y376.1.2.1)) (some (.inl (y288.1.1, y320.1.1, y328.1.1, y356.1.1, y371.1.1, true, ()))) (Option.bind (laws_zSame_f k y371.1.1 y376.1.1) (fun y437 => (cond (!y437.1.1) (some (.inl (y288.1.1, y320.1.1, y328.1.1, y356.1.1, y371.1.1, true, ()))) (cond y296.1.2.1 (some (.inl (y288.1.1, y320.1.1, y328.1.1, y356.1.1, y371.1.1, (!y309.1.2.1), ()))) (some (.inl (y288.1.1, y320.1.1, y328.1.1, y356.1.1, y371.1.1, false, ())))))))))))))))))))))) (fun j11 => (cond j11.2.2.2.2.2.1 (some ((false, ()), ())) (met (cond y296.1.2.1 (some (.inl ((decide (y288.1.2.1 ≤ 200)), ()))) (some (.inl (false, ())))) (fun j12 => (met (cond j12.1 (met (laws_FnSocksDrawn_l13 k y288 j11 0 0) (fun j14 => (met (cond (j14.1 != y309.1.1) (some (.inl (true, ()))) (some (.inl ((decide (y296.1.1 > y309.1.1)), ())))) (fun j15 => (cond j15.1 (some (.inr ((false, ()), ()))) (some (.inl ()))))))) (some (.inl ()))) (fun j16 => (met (cond y328.1.2.1 (Option.bind (impl_RankOfDraw_f k j11.2.1 j11.2.2.1) (fun y482 => (met (Option.bind (laws_zSum_f k j11.2.2.1) (fun y486 => (cond (y486.1.1 != y320.1.2.1) (some (.inl (true, ()))) (cond (!y482.1.2.1) (some (.inl (true, ()))) (some (.inl ((y482.1.1 != y320.1.2.2.1), ()))))))) (fun j17 => (cond j17.1 (some (.inr ((false, ()), ()))) (met (cond (decide (y320.1.2.2.1 > 0)) (Option.bind (impl_DrawOfRank_f k j11.2.1 y320.1.2.1 (iw (y320.1.2.2.1 - 1))) (fun y505 => (met (cond (!y505.1.2.1) (some (.inl (true, ()))) (Option.bind (laws_zBefore_f k y505.1.1 j11.2.2.1) (fun y513 => (cond (!y513.1.1) (some (.inl (true, ()))) (Option.bind (laws_zSame_f k y505.1.1 j11.2.2.1) (fun y519 => (some (.inl (y519.1.1, ()))))))))) (fun j18 => (cond j18.1 (some (.inr (.inr ((false, ()), ())))) (some (.inl ()))))))) (some (.inl ()))) (fun j19 => (some (.inl ()))))))))) (some (.inl ()))) (fun j20 => (met (cond y359.1.2.1 (Option.bind (impl_ParseSocks_f k y359.1.1) (fun y524 => (met (cond (!y524.1.2.1) (some (.inl (true, ()))) (Option.bind (laws_zSame_f k y524.1.1 j11.2.2.2.1) (fun y532 => (some (.inl ((!y532.1.1), ())))))) (fun j21 => (cond j21.1 (some (.inr ((false, ()), ()))) (some (.inl ()))))))) (some (.inl ()))) (fun j22 => (cond y371.1.2.1 (Option.bind (impl_SocksText_f k j11.2.2.2.2.1) (fun y538 => (met (cond y538.1.2.1 (some (.inl ((y538.1.1.toList == y368.1.1.toList), ()))) (some (.inl (false, ())))) (fun j23 => (some ((j23.1, ()), ())))))) (some ((true, ()), ()))))))))))))))))))))))))))))))))))))))))))))))))

theorem met_goT {α β : Type} {o : Option (β ⊕ α)} {K : β → Option α} {r : Option α} (v : β) (h : o = some (.inl v)) (h2 : K v = r) : met o K = r := by rw [h]; exact h2
theorem is_trT {S D : List Int} (I : Is S D) (hS : in20 S) : isB S D = true := by
  unfold isB
  simp only [Bool.and_eq_true, decide_eq_true_eq, List.all_eq_true, List.mem_range]
  refine ⟨I.len, fun i _ => ?_⟩
  have := I.le i
  rw [at_is hS, at_is I.inD]
  omega
theorem good_mk {S : List Int} (h1 : 1 ≤ S.length) (h8 : S.length ≤ 8) (hin : in20 S) (hp : 0 < total (nats' S)) : good S = true := by
  unfold good
  rw [decide_eq_true (show 1 ≤ (S.length : Int) by omega), decide_eq_true (show (S.length : Int) ≤ 8 by omega), sumW_is hin (by omega), ← total_nats hin, decide_eq_true (show ((total (nats' S) : Nat) : Int) > 0 by omega)]
  have : allIn 0 20 S = true := by
    unfold allIn
    rw [List.all_eq_true]
    intro x hx
    have := hin x hx
    rw [decide_eq_true this.1, decide_eq_true this.2]; rfl
  rw [this]; rfl
theorem zSame_eq (k : Nat) (hk : 100 ≤ k) (a b : List Int) (ha : a.length ≤ 20) : laws_zSame_f k a b = some ((decide (a = b), ()), ()) := by
  unfold laws_zSame_f
  by_cases hl : a.length = b.length
  · rw [show ((a.length : Int) != (b.length : Int)) = false by simp [hl], cond_false]
    unfold laws_zSame_l1
    refine iter_met (fun j => ((j : Int), ())) (fun j => some ((decide (a.drop j = b.drop j), ()), ())) a.length (fun j hj => ?_) k 0 (Nat.zero_le _) (by omega)
    rcases Nat.lt_or_ge j a.length with h1 | h1
    · have h2 : j < b.length := by omega
      have da : a.drop j = a[j] :: a.drop (j + 1) := List.drop_eq_getElem_cons h1
      have db : b.drop j = b[j] :: b.drop (j + 1) := List.drop_eq_getElem_cons h2
      have e : ∀ rec : (Int × Unit) → Option (Unit ⊕ ((Bool × Unit) × Unit)), laws_zSame_l1_b k a b (fun x5 => rec (x5, ())) (j : Int) = cond (a[j] != b[j]) (some (.inr ((false, ()), ()))) (rec (((j + 1 : Nat) : Int), ())) := fun rec => by
        simp only [laws_zSame_l1_b]
        rw [cond_dec, if_pos (by omega), ixk_in (by omega) (by omega), ixk_in (by omega) (by omega), rd_nat a j h1, rd_nat b j h2, iw_nat (by omega)]
      by_cases he : a[j] = b[j]
      · refine .inr ⟨h1, ?_, fun rec => ?_⟩
        · show some ((decide (a.drop j = b.drop j), ()), ()) = some ((decide (a.drop (j + 1) = b.drop (j + 1)), ()), ())
          have : (a.drop j = b.drop j) ↔ (a.drop (j + 1) = b.drop (j + 1)) := by rw [da, db]; exact ⟨fun h => (List.cons.inj h).2, fun h => by rw [he, h]⟩
          rw [decide_eq_decide.2 this]
        · show laws_zSame_l1_b k a b (fun x5 => rec (x5, ())) (j : Int) = _
          rw [e, he]; simp
      · refine .inl fun rec => ?_
        show met (laws_zSame_l1_b k a b (fun x5 => rec (x5, ())) (j : Int)) _ = some ((decide (a.drop j = b.drop j), ()), ())
        rw [e, show (a[j] != b[j]) = true by simp [he], decide_eq_false (show ¬ a.drop j = b.drop j by rw [da, db]; intro h; exact he (List.cons.inj h).1)]
        rfl
    · refine .inl fun rec => ?_
      show met (laws_zSame_l1_b k a b (fun x5 => rec (x5, ())) (j : Int)) _ = some ((decide (a.drop j = b.drop j), ()), ())
      simp only [laws_zSame_l1_b]
      rw [cond_dec, if_neg (by omega), List.drop_eq_nil_of_le (by omega), List.drop_eq_nil_of_le (by omega)]
      rfl
  · rw [show ((a.length : Int) != (b.length : Int)) = true by simp; omega, cond_true, decide_eq_false (show ¬ a = b from fun h => hl (by rw [h]))]
theorem zSame_self (k : Nat) (hk : 100 ≤ k) (a : List Int) (ha : a.length ≤ 20) : laws_zSame_f k a a = some ((true, ()), ()) := by rw [zSame_eq k hk a a ha, decide_eq_true rfl]
/-! ### What is left and what is drawn -/
theorem add_left {S D : List Int} (hS : in20 S) (I : Is S D) : addL (leftL S D) D = S := by
  unfold addL
  rw [show (leftL S D).length = S.length from row_len _ _]
  conv => rhs; rw [row_at hS]
  refine row_congr fun i hi => ?_
  show at' (leftL S D) i + at' D i = at' S i
  unfold leftL
  rw [at_row _ _ i hi]
  have := I.le i
  omega
theorem left_l3 (k : Nat) (hk : 100 ≤ k) {S D : List Int} (hS : in20 S) (I : Is S D) (h8 : S.length ≤ 8) (b : Bool) : laws_FnSocksDrawn_l3 k ((S, D, ()), ()) (D, leftL S D, b, ()) 0 = some (.inl ()) := by
  have hl : (leftL S D).length = S.length := row_len _ _
  have hd := I.len
  unfold laws_FnSocksDrawn_l3
  refine iter_to (fun j => ((j : Int), ())) S.length _ (fun j hj rec => ?_) (fun rec => ?_) k (by omega)
  · simp only [laws_FnSocksDrawn_l3_b]
    have e : iw (rd (leftL S D) (j : Int) + rd D (j : Int)) = rd S (j : Int) := by
      rw [at_is I.inD, at_is hS, at_is (left_in hS)]
      unfold leftL
      rw [at_row _ _ j hj]
      have := I.le j
      have := at_le hS j
      rw [iw_id (by omega) (by omega)]
      omega
    rw [cond_dec, if_pos (by omega), ixk_in (by omega) (by omega), ixk_in (by omega) (by omega), ixk_in (by omega) (by omega), e, iw_nat (by omega), bne_self_eq_false, cond_false]
  · simp only [laws_FnSocksDrawn_l3_b]
    rw [cond_dec, if_neg (by omega)]
theorem sdLeft_is (k : Nat) (hk : 1000 ≤ k) (S D : List Int) (h8 : S.length ≤ 8) (h9 : D.length ≤ 9) (b : Bool) : sdLeft k ((S, D, ()), ()) (pairsVal S D) (leftVal S D) (D, (leftVal S D).1.1, b, ()) = some (.inl ()) := by
  unfold sdLeft pairsVal
  cases hv : good S && isB S D with
  | false => rfl
  | true =>
    have hv' := hv
    simp only [Bool.and_eq_true] at hv
    have G := good_is hv.1
    have I := is_is hv.2 G.inS
    have hsum := is_sum I h8
    have ht := left_total I
    obtain ⟨g1, g2, g3⟩ := good_sum G
    simp only [if_true, cond_true]
    rw [implCountS_is k (by omega) S h8]
    unfold countS
    rw [hv.1]
    simp only [if_true, Option.bind_some, Bool.not_true, cond_false]
    rw [zSum_is k D (by omega) (by omega), hsum]
    simp only [Option.bind_some]
    unfold leftVal leftB
    rw [hv', Bool.true_and]
    by_cases he : total (nats' S) = total (nats' D)
    · rw [decide_eq_true he, decide_eq_false (show ¬ ((total (nats' D) : Nat) : Int) < ((total (nats' S) : Nat) : Int) by omega)]
      rfl
    · rw [decide_eq_false he, decide_eq_true (show ((total (nats' D) : Nat) : Int) < ((total (nats' S) : Nat) : Int) by omega)]
      simp only [Bool.not_false, if_true, beq_self_eq_true, Bool.not_true, met_inl, cond_false, cond_true]
      rw [left_l3 k (by omega) G.inS I h8]
      simp only [met_inl]
      by_cases hz : total (nats' D) = 0
      · rw [decide_eq_false (show ¬ ((total (nats' D) : Nat) : Int) > 0 by omega)]
        rfl
      · rw [decide_eq_true (show ((total (nats' D) : Nat) : Int) > 0 by omega)]
        have hl : (leftL S D).length = S.length := row_len _ _
        have g4 : good (leftL S D) = true := good_mk (by rw [hl]; exact G.l0) (by rw [hl]; exact h8) (left_in G.inS) (by omega)
        have g5 : good D = true := good_mk (by rw [I.len]; exact G.l0) (by rw [I.len]; exact h8) I.inD (by omega)
        rw [implAdd_is k (by omega) _ _ (by rw [hl]; exact h8) (by rw [I.len]; exact h8)]
        unfold addVal addB
        rw [add_left G.inS I, g4, g5, hv.1, decide_eq_true (show (leftL S D).length = D.length by rw [hl, I.len])]
        simp only [Bool.and_self, if_true, cond_true, Option.bind_some, Bool.not_true, cond_false]
        rw [zSame_self k (by omega) S (by omega)]
        rfl
/-! ### Ranks -/
theorem nats_back {D : List Int} (h : in20 D) : (nats' D).map Int.ofNat = D := by
  unfold nats'
  rw [List.map_map]
  refine Eq.trans (List.map_congr_left fun x hx => ?_) (List.map_id _)
  have := h x hx
  show ((x.toNat : Nat) : Int) = x
  omega
theorem is_nats {S D : List Int} (I : Is S D) : (nats' D).length = (nats' S).length ∧ ∀ i, (nats' D).getD i 0 ≤ (nats' S).getD i 0 := by
  refine ⟨by rw [nats_len, nats_len, I.len], fun i => ?_⟩
  rw [getD_at, getD_at]
  exact I.le i
theorem sdRank_is (k : Nat) (hk : 1000 ≤ k) (S D L : List Int) (h8 : S.length ≤ 8) (h9 : D.length ≤ 9) (b : Bool) : sdRank k ((S, D, ()), ()) (rankVal S D) (D, L, b, ()) = some (.inl ()) := by
  unfold sdRank rankVal
  cases hv : good S && isB S D with
  | false => rfl
  | true =>
    simp only [Bool.and_eq_true] at hv
    have G := good_is hv.1
    have I := is_is hv.2 G.inS
    have hsum := is_sum I h8
    obtain ⟨n1, n2⟩ := is_nats I
    obtain ⟨r1, r2⟩ := rk_is _ _ n1 n2
    simp only [if_true, cond_true]
    rw [zSum_is k D (by omega) (by omega), hsum]
    simp only [Option.bind_some]
    rw [implDor_is k hk S h8, implCount_is k hk S h8]
    unfold dorVal dorB countVal
    rw [hv.1, decide_eq_true (show (0 : Int) ≤ ((total (nats' D) : Nat) : Int) by omega), decide_eq_true (show (0 : Int) ≤ ((rk (nats' S) (nats' D) : Nat) : Int) by omega), decide_eq_true (show ((rk (nats' S) (nats' D) : Nat) : Int) < ((V ones (nats' S) ((total (nats' D) : Nat) : Int) : Nat) : Int) by omega)]
    simp only [Bool.and_self, if_true, Option.bind_some, Bool.not_true, cond_false, Int.toNat_natCast]
    have e : urI S (total (nats' D)) (rk (nats' S) (nats' D)) = D := by
      unfold urI
      rw [r2, nats_back I.inD]
    rw [e, zSame_self k (by omega) D (by omega)]
    simp only [Option.bind_some, Bool.not_true, cond_false]
    rw [decide_eq_false (show ¬ ((rk (nats' S) (nats' D) : Nat) : Int) < 0 by omega), decide_eq_false (show ¬ ((rk (nats' S) (nats' D) : Nat) : Int) ≥ ((V ones (nats' S) ((total (nats' D) : Nat) : Int) : Nat) : Int) by omega)]
    rfl
/-! ### Draws by pairs -/
theorem l13_is (k : Nat) (hk : 1000 ≤ k) {S : List Int} (hg : good S = true) (p : Int) (n : Nat) (hn : n ≤ 200) (A B C E : List Int) (b : Bool) : laws_FnSocksDrawn_l13 k ((S, (n : Int), p, ()), ()) (S, A, B, C, E, b, ()) 0 0 = some (.inl (((V ones (nats' S) (n : Int) : Nat) : Int), ())) := by
  have G := good_is hg
  have h8 := G.l8
  have hV := V_good G (n : Int)
  have hs := W_sum ones (fun d : Nat => d / 2) 2 (by omega) half_le (nats' S) (n : Int) (n / 2 + 1) (by omega)
  rw [← hs] at hV ⊢
  unfold laws_FnSocksDrawn_l13
  have ht : iw (Int.tdiv (n : Int) 2) = ((n / 2 : Nat) : Int) := by rw [Int.tdiv_eq_ediv_of_nonneg (by omega), iw_id (by omega) (by omega)]; omega
  refine iter_to (fun j => (((sumN (fun q : Nat => W ones (fun d : Nat => d / 2) (nats' S) (n : Int) (q : Int)) j : Nat) : Int), (j : Int), ())) (n / 2 + 1) _ (fun j hj rec => ?_) (fun rec => ?_) k (by omega)
  · simp only [laws_FnSocksDrawn_l13_b]
    rw [ht, cond_dec, if_pos (by omega), implCP_is k hk S h8]
    unfold cpVal
    rw [hg, decide_eq_true (show (0 : Int) ≤ (n : Int) by omega), decide_eq_true (show (0 : Int) ≤ (j : Int) by omega)]
    simp only [Bool.and_self, if_true, Option.bind_some, Bool.not_true, cond_false]
    have hm := sumN_mono (f := fun q : Nat => W ones (fun d : Nat => d / 2) (nats' S) (n : Int) (q : Int)) (show j + 1 ≤ n / 2 + 1 by omega)
    simp only [sumN] at hm hV ⊢
    rw [iw_nat (by omega), iw_id (by omega) (by omega)]
    congr 2
  · simp only [laws_FnSocksDrawn_l13_b]
    rw [ht, cond_dec, if_neg (by omega)]
theorem sdCnt_is (k : Nat) (hk : 1000 ≤ k) (S : List Int) (h8 : S.length ≤ 8) (m p : Int) (A B C E : List Int) (b : Bool) : sdCnt k ((S, m, p, ()), ()) (cpVal S m p) (countVal S m) (S, A, B, C, E, b, ()) (cond (cpVal S m p).1.2.1 (decide (m ≤ 200)) false, ()) = some (.inl ()) := by
  unfold sdCnt
  cases hv : good S && (decide (0 ≤ m) && decide (0 ≤ p)) with
  | false => unfold cpVal; rw [hv]; rfl
  | true =>
    by_cases h2 : m ≤ 200
    · unfold cpVal countVal
      rw [hv]
      simp only [Bool.and_eq_true, decide_eq_true_eq] at hv
      obtain ⟨n, rfl⟩ : ∃ n : Nat, m = (n : Int) := ⟨m.toNat, by omega⟩
      obtain ⟨q, rfl⟩ : ∃ q : Nat, p = (q : Int) := ⟨p.toNat, by omega⟩
      rw [hv.1, decide_eq_true hv.2.1, decide_eq_true h2]
      simp only [Bool.and_self, if_true, cond_true]
      rw [l13_is k hk hv.1 _ n (by omega)]
      have := WO_le (nats' S) (n : Int) (q : Int)
      simp only [met_inl, bne_self_eq_false, cond_false]
      rw [decide_eq_false (show ¬ ((W ones (fun d : Nat => d / 2) (nats' S) (n : Int) (q : Int) : Nat) : Int) > ((V ones (nats' S) (n : Int) : Nat) : Int) by omega)]
      rfl
    · unfold cpVal
      rw [hv, decide_eq_false h2]; rfl
/-! ### Draws by ranks -/
theorem lx_ne : ∀ (a b : List Int), lx a b → a ≠ b
  | x :: a, y :: b, h => by
    intro e
    obtain ⟨e1, e2⟩ := List.cons.inj e
    rcases h with h | ⟨_, h2⟩
    · omega
    · exact lx_ne a b h2 e2
  | [], _, h => by cases h
  | _ :: _, [], h => by cases h
theorem ur_draw {S : List Int} (G : Good S) (n r : Nat) (hr : r < V ones (nats' S) (n : Int)) : Is S (urI S n r) ∧ nats' (urI S n r) = ur (nats' S) n r := by
  obtain ⟨q1, q2, q3, q4⟩ := ur_is (nats' S) n r hr
  have e : nats' (urI S n r) = ur (nats' S) n r := by
    unfold nats' urI
    rw [List.map_map]
    refine Eq.trans (List.map_congr_left fun x _ => ?_) (List.map_id _)
    rfl
  refine ⟨⟨?_, ?_, fun i => ?_⟩, e⟩
  · unfold urI; rw [List.length_map, q1, nats_len]
  · intro x hx
    unfold urI at hx
    obtain ⟨y, hy, rfl⟩ := List.mem_map.1 hx
    obtain ⟨i, hi⟩ := List.getElem?_of_mem hy
    have h3 := q3 i
    rw [List.getD_eq_getElem?_getD, hi, Option.getD_some, getD_at] at h3
    have := at_le G.inS i
    show 0 ≤ ((y : Nat) : Int) ∧ ((y : Nat) : Int) ≤ 20
    omega
  · rw [← getD_at, ← getD_at, e]; exact q3 i
theorem sdMade_is (k : Nat) (hk : 1000 ≤ k) (T : List Int) (h8 : T.length ≤ 8) (n r : Int) (A B C : List Int) (b : Bool) : sdMade k ((T, n, r, ()), ()) (dorVal T n r) (A, T, (dorVal T n r).1.1, B, C, b, ()) = some (.inl ()) := by
  unfold sdMade
  cases hv : dorB T n r with
  | false => unfold dorVal; rw [hv]; rfl
  | true =>
    have e0 : dorVal T n r = ((urI T n.toNat r.toNat, true, ()), ()) := by unfold dorVal; rw [if_pos hv]
    rw [e0]
    have hv' := hv
    unfold dorB at hv
    simp only [Bool.and_eq_true, decide_eq_true_eq] at hv
    obtain ⟨⟨v1, v2⟩, v3, v4⟩ := hv
    have G := good_is v1
    obtain ⟨N, rfl⟩ : ∃ N : Nat, n = (N : Int) := ⟨n.toNat, by omega⟩
    obtain ⟨R, rfl⟩ : ∃ R : Nat, r = (R : Int) := ⟨r.toNat, by omega⟩
    have hR : R < V ones (nats' T) (N : Int) := by omega
    obtain ⟨I, eN⟩ := ur_draw G N R hR
    obtain ⟨q1, q2, q3, q4⟩ := ur_is (nats' T) N R hR
    have hV := V_good G (N : Int)
    have hl : (urI T N R).length ≤ 8 := by rw [I.len]; exact h8
    simp only [cond_true, Int.toNat_natCast]
    rw [implRank_is k hk T (urI T N R) h8 (by omega)]
    unfold rankVal
    rw [v1, is_trT I G.inS, eN, q4]
    simp only [Bool.and_self, if_true, Option.bind_some]
    rw [zSum_is k _ (by omega) (by omega), is_sum I h8, eN, q2]
    simp only [Option.bind_some, bne_self_eq_false, cond_false, Bool.not_true, met_inl]
    by_cases h0 : R = 0
    · rw [decide_eq_false (show ¬ (R : Int) > 0 by omega)]; rfl
    · obtain ⟨Q, rfl⟩ : ∃ Q, R = Q + 1 := ⟨R - 1, by omega⟩
      have hQ : Q < V ones (nats' T) (N : Int) := by omega
      obtain ⟨I', eN'⟩ := ur_draw G N Q hQ
      have hl' : (urI T N Q).length ≤ 8 := by rw [I'.len]; exact h8
      have hlx : lx (urI T N Q) (urI T N (Q + 1)) := lxN_lx _ _ (ur_mono (nats' T) N Q (Q + 1) (by omega) hR)
      rw [decide_eq_true (show ((Q + 1 : Nat) : Int) > 0 by omega), cond_true, iw_id (by omega) (by omega), show ((Q + 1 : Nat) : Int) - 1 = (Q : Int) by omega, implDor_is k hk T h8]
      unfold dorVal dorB
      rw [v1, decide_eq_true (show (0 : Int) ≤ (N : Int) by omega), decide_eq_true (show (0 : Int) ≤ (Q : Int) by omega), decide_eq_true (show (Q : Int) < ((V ones (nats' T) (N : Int) : Nat) : Int) by omega)]
      simp only [Bool.and_self, if_true, Option.bind_some, Bool.not_true, cond_false, Int.toNat_natCast]
      rw [zBefore_is k (by omega) _ _ (by omega) (by omega), zb_lx _ _ hlx]
      simp only [Option.bind_some, Bool.not_true, cond_false]
      rw [zSame_eq k (by omega) _ _ (by omega), decide_eq_false (lx_ne _ _ hlx)]
      rfl
/-! ### Texts -/
theorem sdText_is (k : Nat) (hk : 2000 ≤ k) (S : List Int) (h8 : S.length ≤ 8) (A B C E : List Int) (b : Bool) : sdText k (textVal S) (A, B, C, S, E, b, ()) = some (.inl ()) := by
  unfold sdText textVal
  cases hg : good S with
  | false => rfl
  | true =>
    simp only [if_true, cond_true]
    rw [implParse_is k hk _ (text_size hg), parse_text hg]
    simp only [Option.bind_some, Bool.not_true, cond_false]
    rw [zSame_self k (by omega) S (by omega)]
    rfl
theorem sdRead_is (k : Nat) (hk : 2000 ≤ k) (s : ByteArray) (A B C E : List Int) (b : Bool) : sdRead k ((s, ()), ()) (prsVal s) (A, B, C, E, (prsVal s).1.1, b, ()) = some ((true, ()), ()) := by
  unfold sdRead prsVal
  cases hg : good ((splL 45 s.data.toList).map rdR) with
  | false => rfl
  | true =>
    have G := good_is hg
    simp only [if_true, cond_true]
    rw [implText_is k (by omega) _ G.l8]
    unfold textVal
    rw [hg]
    simp only [if_true, Option.bind_some, cond_true]
    rw [text_parse s hg, beq_self_eq_true]
    rfl

theorem cp_count (S : List Int) (m p : Int) (h : (cpVal S m p).1.2.1 = true) : (countVal S m).1.2.1 = true := by
  unfold cpVal at h
  unfold countVal
  cases hv : good S && (decide (0 ≤ m) && decide (0 ≤ p)) with
  | false => rw [hv] at h; cases h
  | true =>
    simp only [Bool.and_eq_true] at hv
    rw [hv.1, hv.2.1]; rfl
theorem dor_len (T : List Int) (h8 : T.length ≤ 8) (n r : Int) : (dorVal T n r).1.1.length ≤ 20 := by
  unfold dorVal
  cases hv : dorB T n r with
  | false => exact Nat.zero_le _
  | true =>
    show (urI T n.toNat r.toNat).length ≤ 20
    rw [urI_row, row_len]; omega
theorem add_len (A B : List Int) (h8 : A.length ≤ 8) : (addVal A B).1.1.length ≤ 20 := by
  unfold addVal
  cases hv : addB A B with
  | false => exact Nat.zero_le _
  | true =>
    show (addL A B).length ≤ 20
    unfold addL
    rw [row_len]; omega
theorem prs_len (s : ByteArray) : (prsVal s).1.1.length ≤ 20 := by
  unfold prsVal
  cases hg : good ((splL 45 s.data.toList).map rdR) with
  | false => exact Nat.zero_le _
  | true =>
    have := (good_is hg).l8
    show ((splL 45 s.data.toList).map rdR).length ≤ 20
    omega
theorem left_len (S D : List Int) (h8 : S.length ≤ 8) : (leftVal S D).1.1.length ≤ 20 := by
  unfold leftVal
  cases hv : leftB S D with
  | false => exact Nat.zero_le _
  | true =>
    show (leftL S D).length ≤ 20
    unfold leftL
    rw [row_len]; omega
theorem law3_is (k : Nat) (hk : 100000 ≤ k) (l : List Int) (h : ∀ x ∈ l, 0 ≤ x ∧ x ≤ 255) : law3_f k l = some ((true, ()), ()) := by
  unfold law3_f
  obtain ⟨S, m, p, e1, d1⟩ := drawCP_is k (by omega) l h
  obtain ⟨T, n, r, e2, d2⟩ := drawDor_is k (by omega) l h
  obtain ⟨A, B, e3, d3, d4⟩ := drawAdd_is k (by omega) l h
  obtain ⟨X, e4, d5⟩ := drawSText_is k (by omega) l h
  obtain ⟨y, e5, d6⟩ := drawPS_is k (by omega) l h
  simp only [e1, e2, e3, e4, e5, Option.bind_some, implCP_is k (by omega) S d1.2, specCP_is k hk S d1.2, implCount_is k (by omega) S d1.2, specCount_is k (by omega) S d1.2,
    implDor_is k (by omega) T d2.2, specDor_is k (by omega) T d2.2, implAdd_is k (by omega) A B d3.2 d4.2, specAdd_is k (by omega) A B d3.2 d4.2, implText_is k (by omega) X d5.2, specText_is k (by omega) X d5.2,
    implParse_is k (by omega) y (by omega), specParse_is k (by omega) y (by omega), zSame_self k (by omega) _ (dor_len T d2.2 n r), zSame_self k (by omega) _ (add_len A B d3.2), zSame_self k (by omega) _ (prs_len y),
    beq_self_eq_true, bne_self_eq_false, Bool.not_true, cond_false]
  refine met_goT (S, T, (dorVal T n r).1.1, X, (prsVal y).1.1, false, ()) ?_ ?_
  · cases hc : (cpVal S m p).1.2.1 with
    | false => rfl
    | true => rw [cp_count _ _ _ hc]; rfl
  · simp only [cond_false]
    refine met_goT (cond (cpVal S m p).1.2.1 (decide (m ≤ 200)) false, ()) ?_ ?_
    · cases (cpVal S m p).1.2.1 <;> rfl
    · refine met_goT () (sdCnt_is k (by omega) S d1.2 m p T (dorVal T n r).1.1 X (prsVal y).1.1 false) ?_
      refine met_goT () (sdMade_is k (by omega) T d2.2 n r S X (prsVal y).1.1 false) ?_
      refine met_goT () (sdText_is k (by omega) X d5.2 S T (dorVal T n r).1.1 (prsVal y).1.1 false) ?_
      exact sdRead_is k (by omega) y S T (dorVal T n r).1.1 X false
theorem law_FnSocksDrawn (k : Nat) (hk : 100000 ≤ k) (l0 l1 : List Int) (h0 : ∀ x ∈ l0, 0 ≤ x ∧ x ≤ 255) (h1 : ∀ x ∈ l1, 0 ≤ x ∧ x ≤ 255) : laws_FnSocksDrawn_f k l0 l1 = some ((true, ()), ()) := by
  unfold laws_FnSocksDrawn_f
  obtain ⟨b, eb⟩ := big_is k l0 l1
  obtain ⟨S, D, ed, d1, d2, d3⟩ := drawRank_is k (by omega) l0 h0
  rw [eb]
  simp only [Option.bind_some]
  cases b with
  | true => rfl
  | false =>
    simp only [cond_false, ed, Option.bind_some, implRank_is k (by omega) S D d1.2 d3, specRank_is k (by omega) S D d1.2 d3, implPairs_is k (by omega) S D d1.2 d3, specPairs_is k (by omega) S D d1.2 d3, implLeft_is k (by omega) S D d1.2 d3, specLeft_is k (by omega) S D d1.2 d3,
      implIsDraw_is k (by omega) S D d1.2 d3, specIsDraw_is k (by omega) S D d1.2 d3, zSame_self k (by omega) _ (left_len S D d1.2), beq_self_eq_true, bne_self_eq_false, Bool.not_true]
    refine met_goT (D, (leftVal S D).1.1, false, ()) ?_ ?_
    · unfold isVal pairsVal rankVal leftVal leftB
      cases hg : good S <;> cases hi : isB S D <;> simp
      all_goals (cases hT : decide (total (nats' S) = total (nats' D)) <;> simp)
    · simp only [cond_false]
      refine met_goT () (sdLeft_is k (by omega) S D d1.2 d3 false) ?_
      refine met_goT () (sdRank_is k (by omega) S D (leftVal S D).1.1 d1.2 d3 false) ?_
      exact law3_is k hk l1 h1
theorem pure_FnSocksDrawn : Law laws_FnSocksDrawn_f := fun l0 l1 _ h0 _ h1 => ⟨100000, law_FnSocksDrawn 100000 (Nat.le_refl _) l0 l1 (byte_in h0) (byte_in h1)⟩

end Go.Proofs.YtiagjdlnofalfaaGreatDoorV.Law
