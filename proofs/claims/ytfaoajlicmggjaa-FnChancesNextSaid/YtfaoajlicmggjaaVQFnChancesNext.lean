/- The law FnChancesNext as a plain statement of plain functions: it answers true, whatever comes in. No condition. -/
import Derived.Test.YtfaoajlicmggjaaVQFnChancesNextx1
namespace Go.Proofs.YtfaoajlicmggjaaV.Law
set_option linter.unusedVariables false
set_option linter.unusedSimpArgs false
open Go.Proofs.YtfaoajlicmggjaaV
/-- A colour is there. -/
def st1 (d : Nat) : Nat := min d 1
theorem st1_le (d : Nat) : st1 d ≤ d := by unfold st1; omega
theorem W1_low (N : List Nat) (k p : Int) (h : k < p) : W ch st1 N k p = 0 := W_low ch st1 1 (fun d => by rw [Nat.one_mul]; exact st1_le d) N k p (by omega)
theorem W1_le (N : List Nat) (k p : Int) : W ch st1 N k p ≤ chI (total N) k := by
  rw [← V_ch]; exact W_le ch st1 1 (by omega) (fun d => by rw [Nat.one_mul]; exact st1_le d) N k p
theorem idx_div {p q V : Nat} (h : q < V) : (p * V + q) / V = p ∧ (p * V + q) % V = q := by
  constructor
  · rw [Nat.mul_comm, Nat.mul_add_div (by omega), Nat.div_eq_of_lt h]; rfl
  · rw [Nat.mul_comm, Nat.mul_add_mod, Nat.mod_eq_of_lt h]
/-- Where a choice of d more comes to. -/
def place (V a d : Nat) : Nat := (a / V + d) * V + a % V + st1 d
def part (V c : Nat) (w : Nat → Nat) (a n t : Nat) : Nat := sumN (fun d => if t = place V a d then w a * ch c d else 0) n
def upto (V c : Nat) (w : Nat → Nat) (n t : Nat) : Nat := sumN (fun a => part V c w a (c + 1) t) n
theorem upto_is (V c : Nat) (hV : 0 < V) (N : List Nat) (t : Nat) (ht : t < V * V) : upto V c (fun a => W ch st1 N ((a / V : Nat) : Int) ((a % V : Nat) : Int)) (V * V) t = W ch st1 (N ++ [c]) ((t / V : Nat) : Int) ((t % V : Nat) : Int) := by
  have hq := Nat.mod_lt t hV
  have hp : t / V < V := Nat.div_lt_of_lt_mul ht
  have htt : t / V * V + t % V = t := by rw [Nat.mul_comm]; exact Nat.div_add_mod t V
  unfold upto part
  rw [sumN_comm, W_snoc]
  refine sumN_congr _ fun d _ => ?_
  have hst := st1_le d
  by_cases h : d ≤ t / V ∧ st1 d ≤ t % V
  · have hc := idx_div (p := t / V - d) (q := t % V - st1 d) (V := V) (by omega)
    have hlt : (t / V - d) * V + (t % V - st1 d) < V * V := by
      have : (t / V - d) * V ≤ (V - 1) * V := Nat.mul_le_mul_right _ (by omega)
      have e : (V - 1) * V + V = V * V := by
        rw [← Nat.succ_mul]; congr 1; omega
      omega
    have key : ∀ a, (if t = place V a d then W ch st1 N ((a / V : Nat) : Int) ((a % V : Nat) : Int) * ch c d else 0) = if a = (t / V - d) * V + (t % V - st1 d) then ch c d * W ch st1 N (((t / V : Nat) : Int) - d) (((t % V : Nat) : Int) - ((st1 d : Nat) : Int)) else 0 := by
      intro a
      have ha := Nat.mod_lt a hV
      have haa : a / V * V + a % V = a := by rw [Nat.mul_comm]; exact Nat.div_add_mod a V
      by_cases e : a = (t / V - d) * V + (t % V - st1 d)
      · rw [if_pos e]
        have e1 : a / V = t / V - d := by rw [e]; exact hc.1
        have e2 : a % V = t % V - st1 d := by rw [e]; exact hc.2
        have : t = place V a d := by
          unfold place
          rw [e1, e2, show t / V - d + d = t / V by omega]
          omega
        rw [if_pos this, e1, e2, Nat.mul_comm, show ((t / V - d : Nat) : Int) = ((t / V : Nat) : Int) - d by omega, show ((t % V - st1 d : Nat) : Int) = ((t % V : Nat) : Int) - ((st1 d : Nat) : Int) by omega]
      · rw [if_neg e]
        by_cases e3 : t = place V a d
        · rw [if_pos e3]
          by_cases e4 : ((a / V : Nat) : Int) < ((a % V : Nat) : Int)
          · rw [W1_low N _ _ e4, Nat.zero_mul]
          · exfalso
            have hle : a / V + d < V := by
              rcases Nat.lt_or_ge (a / V + d) V with h5 | h5
              · exact h5
              · have : V * V ≤ (a / V + d) * V := Nat.mul_le_mul_right _ h5
                unfold place at e3; omega
            have h6 := idx_div (p := a / V + d) (q := a % V + st1 d) (V := V) (by omega)
            have e5 : t = (a / V + d) * V + (a % V + st1 d) := by unfold place at e3; omega
            rw [← e5] at h6
            apply e
            rw [h6.1, h6.2, show a / V + d - d = a / V by omega, show a % V + st1 d - st1 d = a % V by omega, haa]
        · rw [if_neg e3]
    rw [sumN_congr _ fun a _ => key a, sumN_one, if_pos hlt]
  · have z : W ch st1 N (((t / V : Nat) : Int) - d) (((t % V : Nat) : Int) - ((st1 d : Nat) : Int)) = 0 := W_neg _ _ _ _ _ (by omega)
    rw [z, Nat.mul_zero]
    refine sumN_zero _ fun a _ => ?_
    by_cases e3 : t = place V a d
    · rw [if_pos e3]
      by_cases e4 : ((a / V : Nat) : Int) < ((a % V : Nat) : Int)
      · show W ch st1 N _ _ * ch c d = 0
        rw [W1_low N _ _ e4, Nat.zero_mul]
      · exfalso
        have hle : a / V + d < V := by
          rcases Nat.lt_or_ge (a / V + d) V with h5 | h5
          · exact h5
          · have : V * V ≤ (a / V + d) * V := Nat.mul_le_mul_right _ h5
            unfold place at e3; omega
        have h6 := idx_div (p := a / V + d) (q := a % V + st1 d) (V := V) (by omega)
        have e5 : t = (a / V + d) * V + (a % V + st1 d) := by unfold place at e3; omega
        rw [← e5] at h6
        omega
    · rw [if_neg e3]
theorem place_lt {V a j : Nat} (h1 : a / V + j < V) (h2 : a % V + st1 j < V) : place V a j < V * V := by
  unfold place
  have : (a / V + j) * V ≤ (V - 1) * V := Nat.mul_le_mul_right _ (by omega)
  have e : (V - 1) * V + V = V * V := by
    rw [← Nat.succ_mul]; congr 1; omega
  omega
theorem vv_small {V : Nat} (h : V ≤ 41) : V * V ≤ 1681 := Nat.mul_le_mul h h
section
variable (k : Nat) (hk : 10000 ≤ k) (m V : Nat) (hV : V = m + 1) (hm : m ≤ 40) (S : List Int) (i c : Nat) (hc : c ≤ 20) (hi : i < S.length) (hSc : rd S (i : Int) = (c : Int)) (w : Nat → Nat)
include hk hV hm hc hi hSc
theorem l3t_is (a : Nat) (ha : a < V * V) (hw : (a % V) ≤ a / V) (f : Nat → Nat) (hf : ∀ t, t < V * V → f t + part V c w a (c + 1) t ≤ 1099511627776) (hw2 : w a ≤ 1099511627776) :
    spec_chTable_l3 k S (m : Int) 99 (row (V * V) w) (i : Int) (a : Int) (row (V * V) f) 0 = some (.inl (row (V * V) (fun t => f t + part V c w a (c + 1) t), ())) := by
  have _hi := hi
  have hVp : 0 < V := by omega
  have hq := Nat.mod_lt a hVp
  have hp : a / V < V := Nat.div_lt_of_lt_mul ha
  have hvv := vv_small (V := V) (by omega)
  have eV : iw ((m : Int) + 1) = (V : Int) := by rw [iw_nat (by omega), hV]
  have ed : Int.tdiv (a : Int) (V : Int) = ((a / V : Nat) : Int) := by rw [Int.tdiv_eq_ediv_of_nonneg (by omega)]; rfl
  have em : Int.tmod (a : Int) (V : Int) = ((a % V : Nat) : Int) := by rw [Int.tmod_eq_emod_of_nonneg (by omega)]; rfl
  have hmono : ∀ j t, j ≤ c + 1 → part V c w a j t ≤ part V c w a (c + 1) t := fun j t hj => sumN_mono hj
  unfold spec_chTable_l3
  rw [show row (V * V) f = row (V * V) (fun t => f t + part V c w a 0 t) from rfl]
  refine iter_to (fun j => (row (V * V) (fun t => f t + part V c w a j t), (j : Int), ())) (min (c + 1) (V - a / V)) _ (fun j hj rec => ?_) (fun rec => ?_) k (by omega)
  · have hst := st1_le j
    have hpl : place V a j < V * V := place_lt (by omega) (by omega)
    have e1 : (a / V + j) * V ≤ V * V := Nat.mul_le_mul_right _ (by omega)
    have idx : iw (iw (iw (iw (iw ((a / V : Nat) : Int) + (j : Int)) * (V : Int)) + ((a % V : Nat) : Int)) + ((st1 j : Nat) : Int)) = ((place V a j : Nat) : Int) := by
      rw [iw_id (x := ((a / V : Nat) : Int)) (by omega) (by omega), iw_id (x := ((a / V : Nat) : Int) + (j : Int)) (by omega) (by omega), show (((a / V : Nat) : Int) + (j : Int)) * (V : Int) = (((a / V + j) * V : Nat) : Int) by exact_mod_cast rfl]
      unfold place at hpl ⊢
      generalize (a / V + j) * V = z at *
      rw [iw_id (x := (z : Int)) (by omega) (by omega), iw_id (x := (z : Int) + _) (by omega) (by omega), iw_id (by omega) (by omega)]
      omega
    have hch : chI c (j : Int) = ch c j := by unfold chI; rw [if_pos (by omega), Int.toNat_natCast]
    have hstep : ∀ t, part V c w a (j + 1) t = part V c w a j t + (if t = place V a j then w a * ch c j else 0) := fun t => rfl
    simp only [spec_chTable_l3_b, eV, ed, em]
    rw [cond_dec, hSc, if_pos (by omega), iw_id (x := ((a / V : Nat) : Int)) (by omega) (by omega), iw_id (x := ((a / V : Nat) : Int) + (j : Int)) (by omega) (by omega), decide_eq_true (by omega : ((a / V : Nat) : Int) + (j : Int) ≤ (m : Int))]
    simp only [met_inl, cond_true]
    rw [show ((99 : Int) == 99) = true from rfl]
    simp only [cond_true, least_l1, Option.bind_some, met_inl]
    rw [show (if (j : Int) < 1 then (j : Int) else 1) = ((st1 j : Nat) : Int) by unfold st1; split <;> omega]
    have idx' := idx
    rw [iw_id (x := ((a / V : Nat) : Int)) (by omega) (by omega), iw_id (x := ((a / V : Nat) : Int) + (j : Int)) (by omega) (by omega)] at idx'
    rw [idx', chChoose_is k (by omega) c (by omega), hch]
    simp only [Option.bind_some]
    rw [ixk_in (by omega) (by rw [row_len]; omega), ixk_in (by omega) (by rw [row_len]; omega), row_get _ _ _ hpl, row_get _ _ a ha, iw_nat (by omega)]
    have hb1 := hf (place V a j) hpl
    have hb2 := hmono (j + 1) (place V a j) (by omega)
    rw [hstep, if_pos rfl] at hb2
    rw [show (w a : Int) * (ch c j : Int) = ((w a * ch c j : Nat) : Int) by exact_mod_cast rfl]
    generalize hz : w a * ch c j = z at *
    rw [iw_id (x := (z : Int)) (by omega) (by omega), iw_id (by omega) (by omega), show ((f (place V a j) + part V c w a j (place V a j) : Nat) : Int) + (z : Int) = ((f (place V a j) + part V c w a j (place V a j) + z : Nat) : Int) by omega, row_set]
    congr 2
    unfold row
    refine List.map_congr_left fun t _ => ?_
    dsimp only
    rw [hstep]
    by_cases h : t = place V a j
    · subst h; rw [if_pos rfl, if_pos rfl]; omega
    · rw [if_neg h, if_neg h]; rfl
  · have hend : ∀ t, t < V * V → part V c w a (min (c + 1) (V - a / V)) t = part V c w a (c + 1) t := fun t ht => by
      unfold part
      symm
      refine sumN_more (by omega) fun d h1 h2 => ?_
      rw [if_neg]
      intro e
      have : V * V ≤ (a / V + d) * V := Nat.mul_le_mul_right _ (by omega)
      unfold place at e; omega
    have hres : row (V * V) (fun t => f t + part V c w a (min (c + 1) (V - a / V)) t) = row (V * V) (fun t => f t + part V c w a (c + 1) t) := by
      unfold row
      exact List.map_congr_left fun t ht => by dsimp only; rw [hend t (List.mem_range.1 ht)]
    simp only [spec_chTable_l3_b, eV, ed, em]
    rw [cond_dec, hSc, hres]
    by_cases h : ((min (c + 1) (V - a / V) : Nat) : Int) ≤ (c : Int)
    · rw [if_pos h, iw_id (x := ((a / V : Nat) : Int)) (by omega) (by omega), iw_id (by omega) (by omega), decide_eq_false (by omega)]
      rfl
    · rw [if_neg h]; rfl
theorem l2t_is (N : List Nat) (hw : ∀ a, w a = W ch st1 N ((a / V : Nat) : Int) ((a % V : Nat) : Int)) (hN : total (N ++ [c]) ≤ 40) (hN' : total N ≤ 40) :
    spec_chTable_l2 k S (m : Int) 99 (row (V * V) w) (i : Int) (row (V * V) fun _ => 0) 0 = some (.inl (row (V * V) (fun t => W ch st1 (N ++ [c]) ((t / V : Nat) : Int) ((t % V : Nat) : Int)), ())) := by
  have hVp : 0 < V := by omega
  have hvv := vv_small (V := V) (by omega)
  have eV : iw ((m : Int) + 1) = (V : Int) := by rw [iw_nat (by omega), hV]
  have hfun : w = fun a => W ch st1 N ((a / V : Nat) : Int) ((a % V : Nat) : Int) := funext hw
  have hfull : ∀ t, t < V * V → upto V c w (V * V) t = W ch st1 (N ++ [c]) ((t / V : Nat) : Int) ((t % V : Nat) : Int) := fun t ht => by rw [hfun]; exact upto_is V c hVp N t ht
  have hbound : ∀ a t, a ≤ V * V → t < V * V → upto V c w a t ≤ 1099511627776 := fun a t ha ht => by
    have h1 : upto V c w a t ≤ upto V c w (V * V) t := sumN_mono ha
    rw [hfull t ht] at h1
    have h2 := W1_le (N ++ [c]) ((t / V : Nat) : Int) ((t % V : Nat) : Int)
    have h3 := chI_small hN ((t / V : Nat) : Int)
    omega
  unfold spec_chTable_l2
  rw [show row (V * V) (fun _ => 0) = row (V * V) (upto V c w 0) from rfl]
  refine iter_to (fun a => (row (V * V) (upto V c w a), (a : Int), ())) (V * V) _ (fun a ha rec => ?_) (fun rec => ?_) k (by omega)
  · have hstep : ∀ t, upto V c w (a + 1) t = upto V c w a t + part V c w a (c + 1) t := fun t => rfl
    simp only [spec_chTable_l2_b, eV]
    rw [cond_dec, if_pos (by rw [row_len]; omega), ixk_in (by omega) (by rw [row_len]; omega), row_get _ _ a ha, iw_nat (by omega)]
    by_cases h0 : w a = 0
    · have e : ((w a : Int) == 0) = true := by rw [h0]; rfl
      rw [e]
      simp only [cond_true, met_inl]
      congr 2
      unfold row
      refine List.map_congr_left fun t _ => ?_
      rw [hstep]
      have : part V c w a (c + 1) t = 0 := by
        unfold part
        exact sumN_zero _ fun d _ => by rw [h0, Nat.zero_mul]; split <;> rfl
      rw [this]; rfl
    · have e : ((w a : Int) == 0) = false := by simp; omega
      have hne : ((V : Int) == 0) = false := by simp; omega
      rw [e, hne]
      have hhalf : (a % V) ≤ a / V := by
        rcases Nat.lt_or_ge (a / V) ((a % V)) with h1 | h1
        · exact absurd (by rw [hw a]; exact W1_low N _ _ (by omega)) h0
        · exact h1
      simp only [cond_false, Bool.not_false]
      rw [chk_true rfl, chk_true rfl, l3t_is k hk m V hV hm S i c hc hi hSc w a ha hhalf _ (fun t ht => by rw [← hstep]; exact hbound (a + 1) t (by omega) ht) (by
        rw [hw a]
        have h2 := W1_le N ((a / V : Nat) : Int) ((a % V : Nat) : Int)
        have h3 := chI_small hN' ((a / V : Nat) : Int)
        omega)]
      rfl
  · simp only [spec_chTable_l2_b]
    rw [cond_dec, if_neg (by rw [row_len]; omega)]
    congr 3
    unfold row
    exact List.map_congr_left fun t ht => by rw [hfull t (List.mem_range.1 ht)]
end
theorem total_app : ∀ (A B : List Nat), total (A ++ B) = total A + total B
  | [], B => by simp [total]
  | a :: A, B => by
    have := total_app A B
    simp only [List.cons_append, total]; omega
theorem total_take (N : List Nat) (i : Nat) : total (N.take i) ≤ total N := by
  have h := total_app (N.take i) (N.drop i)
  rw [List.take_append_drop] at h
  omega
theorem chTable_is (k : Nat) (hk : 10000 ≤ k) {S : List Int} (F : Few S) (m : Nat) (hm : m ≤ 40) : spec_chTable_f k S (m : Int) 99 = some ((row (m + 1) (fun p => W ch st1 (nats' S) (m : Int) (p : Int)), ()), ()) := by
  have l8 := F.l8
  have hT := total_nats F.inS
  have le := F.le
  have hN := nats_len S
  obtain ⟨V, hV⟩ : ∃ V, V = m + 1 := ⟨_, rfl⟩
  have hVp : 0 < V := by omega
  have hvv := vv_small (V := V) (by omega)
  have eV : iw ((m : Int) + 1) = (V : Int) := by rw [iw_nat (by omega), hV]
  have eVV : iw ((V : Int) * (V : Int)) = ((V * V : Nat) : Int) := by
    rw [show (V : Int) * (V : Int) = ((V * V : Nat) : Int) by exact_mod_cast rfl, iw_id (by omega) (by omega)]
  have hmV : m * V + V = V * V := by rw [hV, ← Nat.succ_mul]
  have emV : iw ((m : Int) * (V : Int)) = ((m * V : Nat) : Int) := by
    rw [show (m : Int) * (V : Int) = ((m * V : Nat) : Int) by exact_mod_cast rfl, iw_id (by omega) (by omega)]
  have hrep : List.replicate (V * V) (0 : Int) = row (V * V) fun _ => 0 := by simp [row, List.map_const']
  unfold spec_chTable_f
  rw [eV, eVV, Int.toNat_natCast, hrep, chk_dec (by omega), chk_dec (by omega), chk_dec (by rw [row_len]; have := Nat.mul_pos hVp hVp; omega)]
  have h0 : setI (row (V * V) fun _ => 0) 0 1 = row (V * V) (fun t => W ch st1 ((nats' S).take 0) ((t / V : Nat) : Int) ((t % V : Nat) : Int)) := by
    have a1 := row_set (V * V) (fun _ => 0) 0 1
    rw [show ((0 : Nat) : Int) = 0 from rfl, show ((1 : Nat) : Int) = 1 from rfl] at a1
    rw [a1]
    unfold row
    refine List.map_congr_left fun t _ => ?_
    have htt : t / V * V + t % V = t := by rw [Nat.mul_comm]; exact Nat.div_add_mod t V
    show (((if t = 0 then 1 else 0 : Nat)) : Int) = ((W ch st1 [] ((t / V : Nat) : Int) ((t % V : Nat) : Int) : Nat) : Int)
    simp only [W]
    by_cases ht : t = 0
    · subst ht; simp
    · rw [if_neg ht]
      by_cases hq : t / V = 0 ∧ t % V = 0
      · rw [hq.1, hq.2] at htt; omega
      · rw [if_neg (by omega)]
  have hl : spec_chTable_l1 k S (m : Int) 99 (setI (row (V * V) fun _ => 0) 0 1) 0 = some (.inl (row (V * V) (fun t => W ch st1 (nats' S) ((t / V : Nat) : Int) ((t % V : Nat) : Int)), ())) := by
    rw [h0]
    unfold spec_chTable_l1
    refine iter_to (fun i => (row (V * V) (fun t => W ch st1 ((nats' S).take i) ((t / V : Nat) : Int) ((t % V : Nat) : Int)), (i : Int), ())) S.length _ (fun i hi rec => ?_) (fun rec => ?_) k (by omega)
    · have hg := nats_get F.inS i hi
      have hx := F.inS _ (List.getElem_mem hi)
      rw [rd_nat S i hi] at hg
      have hlt := total_take (nats' S) i
      have hlt2 := total_take (nats' S) (i + 1)
      have htk : (nats' S).take (i + 1) = (nats' S).take i ++ [(nats' S)[i]'(by omega)] := List.take_succ_eq_append_getElem (by omega)
      simp only [spec_chTable_l1_b]
      rw [cond_dec, if_pos (by omega), ixk_in (by omega) (by omega), eV, eVV, Int.toNat_natCast, hrep, chk_dec (by omega), chk_dec (by omega), l2t_is k hk m V hV hm S i ((nats' S)[i]'(by omega)) (by omega) hi (by rw [rd_nat S i hi]; exact hg) _ ((nats' S).take i) (fun _ => rfl) (by rw [← htk]; omega) (by omega)]
      simp only [met_inl]
      rw [← htk, iw_nat (by omega)]
    · simp only [spec_chTable_l1_b]
      rw [cond_dec, if_neg (by omega), List.take_of_length_le (by omega)]
  rw [hl]
  simp only [met_inl]
  rw [emV, chk_dec (by omega), chk_dec (by rw [row_len]; omega), Int.toNat_natCast]
  congr 3
  apply List.ext_getElem
  · simp only [List.length_drop, row_len]; omega
  · intro p h1 h2
    rw [row_len] at h2
    have hd := idx_div (p := m) (q := p) (V := V) (by omega)
    simp only [row, List.getElem_drop, List.getElem_map, List.getElem_range]
    rw [hd.1, hd.2]

/-! ### Different colours: a table in place -/
theorem setI_set {β : Type} (X : List β) (i : Nat) (v : β) : setI X (i : Int) v = X.set i v := by unfold setI; rw [Int.toNat_natCast]
theorem W1_cons (n : Nat) (S : List Nat) (k p : Nat) :
    W ch st1 (S ++ [n]) (k : Int) ((p + 1 : Nat) : Int) = W ch st1 S (k : Int) ((p + 1 : Nat) : Int) + sumN (fun d => ch n (d + 1) * W ch st1 S ((k : Int) - ((d + 1 : Nat) : Int)) (p : Int)) n := by
  rw [W_snoc, sumN_head, ch_zero, Nat.one_mul, show (k : Int) - ((0 : Nat) : Int) = (k : Int) by omega, show ((p + 1 : Nat) : Int) - ((st1 0 : Nat) : Int) = ((p + 1 : Nat) : Int) by simp [st1]]
  congr 1
  refine sumN_congr _ fun d _ => ?_
  rw [show ((p + 1 : Nat) : Int) - ((st1 (d + 1) : Nat) : Int) = (p : Int) by unfold st1; omega]
theorem W1_zero (n : Nat) (S : List Nat) (k : Nat) : W ch st1 (S ++ [n]) (k : Int) 0 = W ch st1 S (k : Int) 0 := by
  rw [W_snoc, sumN_head, ch_zero, Nat.one_mul, show (k : Int) - ((0 : Nat) : Int) = (k : Int) by omega, show (0 : Int) - ((st1 0 : Nat) : Int) = 0 by simp [st1], sumN_zero]
  · rfl
  · intro d _
    rw [W_neg ch st1 _ _ _ (by unfold st1; omega), Nat.mul_zero]
section
variable (k : Nat) (hk : 1000 ≤ k) (A B : Nat) (hA' : A ≤ 41) (hB' : B ≤ 9) (S : List Int) (i a : Nat) (ha : a ≤ 20) (hi : i < S.length) (hSa : rd S (i : Int) = (a : Int)) (g : Nat → Nat → Nat)
/-- What a colour adds at a place. -/
def addP (a : Nat) (g : Nat → Nat → Nat) (x b m : Nat) : Nat := sumN (fun d => ch a (d + 1) * g (x - (d + 1)) (b - 1)) m
include hk hA' hB' ha hi hSa
theorem c7_is (x b : Nat) (hx : x < A) (hb : b + 1 < B) (f : Nat → Nat → Nat) (hf : f x (b + 1) = g x (b + 1)) (hlow : ∀ y, y < x → f y b = g y b) (hs : g x (b + 1) + addP a g x (b + 1) (min a x) ≤ 1099511627776) :
    impl_ChanceOfColours_l7 k S (i : Int) (x : Int) ((b + 1 : Nat) : Int) (tab A B f) 1 = some (.inl (tab A B (fun y c => if y = x ∧ c = b + 1 then g x (b + 1) + addP a g x (b + 1) (min a x) else f y c), ())) := by
  have _ := hi
  have h0 : tab A B f = tab A B (fun y c => if y = x ∧ c = b + 1 then g x (b + 1) + addP a g x (b + 1) 0 else f y c) := tab_congr fun y c _ _ => by
    by_cases h : y = x ∧ c = b + 1
    · rw [if_pos h, h.1, h.2, hf]; rfl
    · rw [if_neg h]
  unfold impl_ChanceOfColours_l7
  rw [h0]
  refine iter_to (fun j => (tab A B (fun y c => if y = x ∧ c = b + 1 then g x (b + 1) + addP a g x (b + 1) j else f y c), ((j + 1 : Nat) : Int), ())) (min a x) _ (fun j hj rec => ?_) (fun rec => ?_) k (by omega)
  · have hmn : min2 (a : Int) (x : Int) = ((min a x : Nat) : Int) := by unfold min2; split <;> omega
    have e1 : iw ((x : Int) - ((j + 1 : Nat) : Int)) = ((x - (j + 1) : Nat) : Int) := by rw [iw_id (by omega) (by omega)]; omega
    have e2 : iw (((b + 1 : Nat) : Int) - 1) = (b : Int) := by rw [iw_id (by omega) (by omega)]; omega
    have hmono : addP a g x (b + 1) (j + 1) ≤ addP a g x (b + 1) (min a x) := sumN_mono (by omega)
    have hst : addP a g x (b + 1) (j + 1) = addP a g x (b + 1) j + ch a (j + 1) * g (x - (j + 1)) b := rfl
    rw [hst] at hmono
    simp only [impl_ChanceOfColours_l7_b]
    rw [hSa, hmn, cond_dec, if_pos (by omega), e1, e2, tab_get _ _ _ x hx, tab_get _ _ _ (x - (j + 1)) (by omega), row_get _ _ (b + 1) hb, row_get _ _ b (by omega), choose_is k (by omega) a (by omega), chI_nat]
    rw [ixk_in (by omega) (by rw [tab_len]; omega), ixk_in (by omega) (by rw [row_len]; omega), ixk_in (by omega) (by rw [tab_len]; omega), ixk_in (by omega) (by rw [row_len]; omega)]
    simp only [Option.bind_some]
    rw [ixk_in (by omega) (by rw [row_len]; omega), if_pos (by simp), if_neg (by omega), hlow _ (by omega), mulI]
    generalize hz : ch a (j + 1) * g (x - (j + 1)) b = z at *
    rw [iw_id (x := (z : Int)) (by omega) (by omega), iw_id (by omega) (by omega), show ((g x (b + 1) + addP a g x (b + 1) j : Nat) : Int) + (z : Int) = ((g x (b + 1) + addP a g x (b + 1) (j + 1) : Nat) : Int) by rw [hst]; omega, row_set, tab_set, iw_nat (by omega)]
    congr 2
    refine tab_congr fun y c _ _ => ?_
    by_cases h1 : y = x
    · rw [if_pos h1]
      by_cases h2 : c = b + 1
      · rw [if_pos h2, if_pos ⟨h1, h2⟩]
      · rw [if_neg h2, if_neg (by omega), if_neg (by omega), h1]
    · rw [if_neg h1, if_neg (by omega), if_neg (by omega)]
  · have hmn : min2 (a : Int) (x : Int) = ((min a x : Nat) : Int) := by unfold min2; split <;> omega
    simp only [impl_ChanceOfColours_l7_b]
    rw [hSa, hmn, cond_dec, if_neg (by omega)]
/-- What a row becomes. -/
def newC (a : Nat) (g : Nat → Nat → Nat) (x c : Nat) : Nat := if c = 0 then g x c else g x c + addP a g x c (min a x)
theorem c6_is (x : Nat) (hx : x < A) (hB : 1 ≤ B) (f : Nat → Nat → Nat) (hf : ∀ y c, y ≤ x → f y c = g y c) (hs : ∀ c, newC a g x c ≤ 1099511627776) (hl : S.length = B - 1) :
    impl_ChanceOfColours_l6 k S (i : Int) (x : Int) (tab A B f) ((B - 1 : Nat) : Int) = some (.inl (tab A B (fun y c => if y = x then newC a g x c else f y c), ())) := by
  have h0 : tab A B f = tab A B (fun y c => if y = x ∧ B - 1 - 0 < c then newC a g x c else f y c) := tab_congr fun y c _ hc => by rw [if_neg (by omega)]
  unfold impl_ChanceOfColours_l6
  rw [h0, show ((B - 1 : Nat) : Int) = ((B - 1 - 0 : Nat) : Int) from rfl]
  refine iter_to (fun j => (tab A B (fun y c => if y = x ∧ B - 1 - j < c then newC a g x c else f y c), ((B - 1 - j : Nat) : Int), ())) (B - 1) _ (fun j hj rec => ?_) (fun rec => ?_) k (by omega)
  · obtain ⟨b, hb⟩ : ∃ b, B - 1 - j = b + 1 := ⟨B - 1 - j - 1, by omega⟩
    have hb' : B - 1 - (j + 1) = b := by omega
    have hn := hs (b + 1)
    unfold newC at hn
    rw [if_neg (by omega)] at hn
    simp only [impl_ChanceOfColours_l6_b]
    rw [hb, hb', cond_dec, if_pos (by omega), c7_is k hk A B hA' hB' S i a ha hi hSa g x b hx (by omega) _ (by rw [if_neg (by omega)]; exact hf _ _ (Nat.le_refl _)) (fun y hy => by rw [if_neg (by omega)]; exact hf _ _ (by omega)) hn]
    simp only [met_inl]
    rw [show iw (((b + 1 : Nat) : Int) - 1) = (b : Int) by rw [iw_id (by omega) (by omega)]; omega]
    congr 2
    refine tab_congr fun y c _ _ => ?_
    by_cases h1 : y = x ∧ c = b + 1
    · rw [if_pos h1, if_pos (by omega), h1.2]
      unfold newC
      rw [if_neg (by omega)]
    · rw [if_neg h1]
      by_cases h2 : y = x ∧ b + 1 < c
      · rw [if_pos h2, if_pos (by omega)]
      · rw [if_neg h2, if_neg (by omega)]
  · simp only [impl_ChanceOfColours_l6_b]
    rw [cond_dec, if_neg (by omega)]
    congr 3
    refine tab_congr fun y c _ _ => ?_
    by_cases h1 : y = x
    · rw [if_pos h1]
      by_cases h2 : c = 0
      · rw [if_neg (by omega), h2]
        unfold newC
        rw [if_pos rfl, h1, hf _ _ (Nat.le_refl _)]
      · rw [if_pos (by omega)]
    · rw [if_neg (by omega), if_neg h1]
theorem c5_is (hA : 1 ≤ A) (hB : 1 ≤ B) (hs : ∀ x c, x < A → newC a g x c ≤ 1099511627776) (hl : S.length = B - 1) :
    impl_ChanceOfColours_l5 k S (i : Int) (tab A B g) ((A - 1 : Nat) : Int) = some (.inl (tab A B (newC a g), ())) := by
  have h0 : tab A B g = tab A B (fun y c => if A - 0 ≤ y then newC a g y c else g y c) := tab_congr fun y c hy _ => by rw [if_neg (by omega)]
  unfold impl_ChanceOfColours_l5
  rw [h0, show ((A - 1 : Nat) : Int) = (A : Int) - 1 - ((0 : Nat) : Int) by omega]
  refine iter_to (fun j => (tab A B (fun y c => if A - j ≤ y then newC a g y c else g y c), (A : Int) - 1 - (j : Int), ())) A _ (fun j hj rec => ?_) (fun rec => ?_) k (by omega)
  · obtain ⟨x, hx⟩ : ∃ x, A - j = x + 1 := ⟨A - j - 1, by omega⟩
    have ex : (A : Int) - 1 - (j : Int) = (x : Int) := by omega
    simp only [impl_ChanceOfColours_l5_b]
    rw [ex, cond_dec, if_pos (by omega), show (S.length : Int) = ((B - 1 : Nat) : Int) by omega, c6_is k hk A B hA' hB' S i a ha hi hSa g x (by omega) hB _ (fun y c hy => by rw [if_neg (by omega)]) (fun c => hs x c (by omega)) hl]
    simp only [met_inl]
    rw [show iw ((x : Int) - 1) = (A : Int) - 1 - ((j + 1 : Nat) : Int) by rw [iw_id (by omega) (by omega)]; omega]
    congr 2
    refine tab_congr fun y c _ _ => ?_
    by_cases h1 : y = x
    · rw [if_pos h1, if_pos (by omega), h1]
    · rw [if_neg h1]
      by_cases h2 : A - j ≤ y
      · rw [if_pos h2, if_pos (by omega)]
      · rw [if_neg h2, if_neg (by omega)]
  · simp only [impl_ChanceOfColours_l5_b]
    rw [cond_dec, if_neg (by omega)]
    congr 3
    exact tab_congr fun y c _ _ => by rw [if_pos (by omega)]
end
theorem newC_W (a : Nat) (N : List Nat) (x c : Nat) : newC a (fun x c => W ch st1 N (x : Int) (c : Int)) x c = W ch st1 (N ++ [a]) (x : Int) (c : Int) := by
  unfold newC
  cases c with
  | zero => rw [if_pos rfl]; exact (W1_zero a N x).symm
  | succ c =>
    rw [if_neg (by omega), W1_cons]
    congr 1
    unfold addP
    have h1 : sumN (fun d => ch a (d + 1) * W ch st1 N ((x : Int) - ((d + 1 : Nat) : Int)) (c : Int)) a = sumN (fun d => ch a (d + 1) * W ch st1 N ((x : Int) - ((d + 1 : Nat) : Int)) (c : Int)) (min a x) :=
      sumN_more (by omega) fun d h2 h3 => by rw [W_neg ch st1 _ _ _ (by omega), Nat.mul_zero]
    rw [h1]
    refine sumN_congr _ fun d hd => ?_
    dsimp only
    rw [show ((x - (d + 1) : Nat) : Int) = (x : Int) - ((d + 1 : Nat) : Int) by omega, Nat.add_sub_cancel]
def colsB (S : List Int) (m c : Int) : Bool := num S m && decide (0 ≤ c)
def colsVal (S : List Int) (m c : Int) : (Int × Int × Bool × Unit) × Unit := if colsB S m c = true then chOut (W ch st1 (nats' S) (m.toNat : Int) c) (ch (total (nats' S)) m.toNat) else noCh
theorem W1_far (N : List Nat) (k p : Int) (h : (N.length : Int) < p) : W ch st1 N k p = 0 := by
  refine W_far ch st1 (fun d n hd => by unfold st1; omega) N k p ?_
  have : ∀ N : List Nat, stS st1 N ≤ N.length := by
    intro N
    induction N with
    | nil => simp [stS]
    | cons n N ih => simp only [stS, List.length_cons]; have : st1 n ≤ 1 := by (unfold st1; omega)
                     omega
  have := this N
  omega
theorem implCols_is (k : Nat) (hk : 1000000000000000 ≤ k) (S : List Int) (h8 : S.length ≤ 8) (m c : Int) : impl_ChanceOfColours_f k S m c = some (colsVal S m c) := by
  unfold impl_ChanceOfColours_f colsVal colsB
  rw [isNumber_is k (by omega) S h8 m]
  simp only [Option.bind_some]
  cases hn : num S m with
  | false => rfl
  | true =>
    obtain ⟨n, rfl, M⟩ := num_is hn
    simp only [Bool.not_true, cond_false, Bool.true_and, met_inl, Int.toNat_natCast]
    by_cases hc : 0 ≤ c
    · have hle := M.le
      have hT := M.T
      have hN := nats_len S
      have e1 : iw ((n : Int) + 1) = ((n + 1 : Nat) : Int) := iw_nat (by omega)
      have e2 : iw ((S.length : Int) + 1) = ((S.length + 1 : Nat) : Int) := iw_nat (by omega)
      have hpos := ch_pos _ _ hle
      have hsm := ch_small n hT
      rw [decide_eq_true hc, decide_eq_false (show ¬ c < 0 by omega), if_pos rfl]
      simp only [cond_false]
      rw [e1, Int.toNat_natCast, chk_dec (by omega), chk_dec (by omega)]
      have h2 : impl_ChanceOfColours_l2 k S (n : Int) (List.replicate (n + 1) ([] : List Int)) 0 = some (.inl (tab (n + 1) (S.length + 1) fun _ _ => 0, ())) := by
        have h0 : List.replicate (n + 1) ([] : List Int) = (List.range (n + 1)).map fun a => if a < 0 then row (S.length + 1) fun _ => 0 else [] := by
          simp [List.map_const']
        unfold impl_ChanceOfColours_l2
        rw [h0]
        refine iter_to (fun j => ((List.range (n + 1)).map fun a => if a < j then row (S.length + 1) fun _ => 0 else [], (j : Int), ())) (n + 1) _ (fun j hj rec => ?_) (fun rec => ?_) k (by omega)
        · simp only [impl_ChanceOfColours_l2_b]
          rw [cond_dec, e1, e2, Int.toNat_natCast, if_pos (by simp; omega), chk_dec (by omega), chk_dec (by omega), ixk_in (by omega) (by simp; omega), iw_nat (by omega)]
          congr 2
          unfold setI
          rw [Int.toNat_natCast, map_set, Int.toNat_natCast]
          refine List.map_congr_left fun a _ => ?_
          by_cases h1 : a = j
          · rw [if_pos h1, if_pos (by omega)]
            simp [row, List.map_const']
          · rw [if_neg h1]
            by_cases h2 : a < j
            · rw [if_pos h2, if_pos (by omega)]
            · rw [if_neg h2, if_neg (by omega)]
        · simp only [impl_ChanceOfColours_l2_b]
          rw [cond_dec, e1, Int.toNat_natCast, if_neg (by simp)]
          congr 3
          unfold tab
          refine List.map_congr_left fun a ha => ?_
          rw [if_pos (List.mem_range.1 ha)]
      rw [h2]
      simp only [met_inl]
      have g0 : rdG [] (tab (n + 1) (S.length + 1) fun _ _ => 0) 0 = row (S.length + 1) fun _ => 0 := tab_get (n + 1) (S.length + 1) _ 0 (by omega)
      have w0 : setI (tab (n + 1) (S.length + 1) fun _ _ => 0) 0 (setI (row (S.length + 1) fun _ => 0) 0 1) = tab (n + 1) (S.length + 1) fun x c => W ch st1 ((nats' S).take 0) (x : Int) (c : Int) := by
        have a1 := row_set (S.length + 1) (fun _ => 0) 0 1
        have a2 := tab_set (n + 1) (S.length + 1) (fun _ _ => 0) 0 (fun i => if i = 0 then 1 else 0)
        simp only [Int.natCast_zero] at a1 a2
        rw [show ((1 : Nat) : Int) = 1 from rfl] at a1
        rw [a1, a2]
        refine tab_congr fun x b _ _ => ?_
        simp only [List.take_zero, W]
        by_cases hx : x = 0
        · subst hx
          by_cases hb : b = 0
          · subst hb; simp
          · rw [if_pos rfl, if_neg hb, if_neg (by omega)]
        · rw [if_neg hx, if_neg (by omega)]
      rw [g0, w0, chk_dec (by rw [tab_len]; omega), chk_dec (by rw [row_len]; omega)]
      have h4 : impl_ChanceOfColours_l4 k S (n : Int) (tab (n + 1) (S.length + 1) fun x c => W ch st1 ((nats' S).take 0) (x : Int) (c : Int)) 0 = some (.inl (tab (n + 1) (S.length + 1) fun x c => W ch st1 (nats' S) (x : Int) (c : Int), ())) := by
        unfold impl_ChanceOfColours_l4
        refine iter_to (fun j => (tab (n + 1) (S.length + 1) fun x c => W ch st1 ((nats' S).take j) (x : Int) (c : Int), (j : Int), ())) S.length _ (fun j hj rec => ?_) (fun rec => ?_) k (by omega)
        · have htk : (nats' S).take (j + 1) = (nats' S).take j ++ [at' S j] := by rw [at_get j hj]; exact List.take_succ_eq_append_getElem (by omega)
          have hlt := total_take (nats' S) (j + 1)
          simp only [impl_ChanceOfColours_l4_b]
          rw [cond_dec, if_pos (by omega), ixk_in (by omega) (by omega)]
          have h5 := c5_is k (by omega) (n + 1) (S.length + 1) (by omega) (by omega) S j (at' S j) (at_le M.F.inS j) hj (at_is M.F.inS j) (fun x c => W ch st1 ((nats' S).take j) (x : Int) (c : Int)) (by omega) (by omega) (fun x c _ => by
            rw [newC_W, ← htk]
            have h6 := W1_le ((nats' S).take (j + 1)) (x : Int) (c : Int)
            have h7 := chI_small (n := total ((nats' S).take (j + 1))) (by omega) (x : Int)
            omega) rfl
          rw [show ((n + 1 - 1 : Nat) : Int) = (n : Int) by omega] at h5
          rw [h5]
          simp only [met_inl]
          rw [iw_nat (by omega), htk]
          congr 2
          exact tab_congr fun x c _ _ => newC_W _ _ _ _
        · simp only [impl_ChanceOfColours_l4_b]
          rw [cond_dec, if_neg (by omega), List.take_of_length_le (by omega)]
      rw [h4]
      simp only [met_inl]
      by_cases hlen : (S.length : Int) < c
      · rw [cond_dec, if_pos (by omega), W1_far _ _ _ (by omega), chOut_zero _ hpos]
      · obtain ⟨q, rfl⟩ : ∃ q : Nat, c = (q : Int) := ⟨c.toNat, by omega⟩
        have h6 := W1_le (nats' S) (n : Int) (q : Int)
        have h7 := chI_small (n := total (nats' S)) hT (n : Int)
        rw [cond_dec, if_neg (by omega), tab_get _ _ _ n (by omega), row_get _ _ q (by omega), ixk_in (by omega) (by rw [tab_len]; omega), ixk_in (by omega) (by rw [row_len]; omega), total_is k S (by omega) (by omega), M.sum]
        simp only [Option.bind_some]
        rw [choose_is k (by omega) _ hT, chI_nat]
        simp only [Option.bind_some]
        rw [fraction_is k _ _ (by omega) hpos (by omega) (by omega)]
        rfl
    · rw [decide_eq_false hc, decide_eq_true (show c < 0 by omega)]; rfl
theorem specCols_is (k : Nat) (hk : 1000000000000000 ≤ k) (S : List Int) (h8 : S.length ≤ 8) (m c : Int) : spec_ChanceOfColours_f k S m c = some (colsVal S m c) := by
  unfold spec_ChanceOfColours_f colsVal colsB
  rw [chAsked_is k (by omega) S h8 m]
  simp only [Option.bind_some]
  cases hn : num S m with
  | false => rfl
  | true =>
    obtain ⟨n, rfl, M⟩ := num_is hn
    simp only [Bool.not_true, cond_false, Bool.true_and, met_inl, Int.toNat_natCast]
    by_cases hc : 0 ≤ c
    · have hle := M.le
      have hT := M.T
      have hpos := ch_pos _ _ hle
      have hsm := ch_small n hT
      obtain ⟨q, rfl⟩ : ∃ q : Nat, c = (q : Int) := ⟨c.toNat, by omega⟩
      have h6 := W1_le (nats' S) (n : Int) (q : Int)
      have h7 := chI_small (n := total (nats' S)) hT (n : Int)
      rw [decide_eq_true hc, decide_eq_false (show ¬ ((q : Int) < 0) by omega), if_pos rfl]
      simp only [cond_false]
      rw [chTable_is k (by omega) M.F n (by omega)]
      simp only [Option.bind_some]
      have ho : spec_chOf_f k (row (n + 1) fun p => W ch st1 (nats' S) (n : Int) (p : Int)) (q : Int) = some (((W ch st1 (nats' S) (n : Int) (q : Int) : Int), ()), ()) := by
        unfold spec_chOf_f
        rw [cond_dec, row_len]
        by_cases h : n < q
        · rw [if_pos (by omega), W1_low _ _ _ (by omega)]; rfl
        · rw [if_neg (by omega), ixk_in (by omega) (by omega), row_get _ _ q (by omega)]
      rw [ho]
      simp only [Option.bind_some]
      rw [soSum_is k S (by omega) (by omega), M.sum]
      simp only [Option.bind_some]
      rw [chChoose_is k (by omega) _ hT, chI_nat]
      simp only [Option.bind_some]
      rw [chLow_is k _ _ (by omega) hpos (by omega) (by omega)]
      rfl
    · rw [decide_eq_false hc, decide_eq_true (show c < 0 by omega)]; rfl

theorem half_le (d : Nat) : 2 * (fun d : Nat => d / 2) d ≤ d := by show 2 * (d / 2) ≤ d; omega
theorem halves2 : ∀ (N : List Nat), 2 * halves N ≤ total N
  | [] => Nat.le_refl _
  | n :: N => by have := halves2 N; simp only [halves, total]; omega
theorem WO_le (N : List Nat) (k p : Int) : W ones (fun d : Nat => d / 2) N k p ≤ V ones N k := W_le ones (fun d : Nat => d / 2) 2 (by omega) half_le N k p
section
variable (k : Nat) (hk : 1000 ≤ k) (A B : Nat) (hA : 1 ≤ A) (hA' : A ≤ 161) (hB : 1 ≤ B) (hB' : B ≤ 81) (X : T3) (i d : Nat) (hi : i + 1 < X.length) (hX : X.length ≤ 9) (g : Nat → Nat → Nat) (hg : X[i + 1] = tab A B g) (w : Nat) (hd : d < A) (hdB : d / 2 < B)
include hk hA hA' hB hB' hi hX hg hd hdB
theorem dr4_is (a : Nat) (ha : d ≤ a) (ha' : a < A) (f : Nat → Nat → Nat) (hf : ∀ b, b < B → d / 2 ≤ b → f a b + w * g (a - d) (b - d / 2) ≤ 4611686018427387904) (u : Unit) (u' : Unit × Unit) :
    impl_waysOf__impl_draws_1_l4 k ((((B - 1 : Nat) : Int), u), u) (i : Int) (d : Int) (((w : Int), u), u) (a : Int) (X.set i (tab A B f)) (iw (Int.tdiv (d : Int) 2)) = some (.inl (X.set i (tab A B fun x b => if x = a ∧ d / 2 ≤ b then f x b + w * g (x - d) (b - d / 2) else f x b), ())) := by
  have ht : iw (Int.tdiv (d : Int) 2) = ((d / 2 + 0 : Nat) : Int) := by
    rw [Int.tdiv_eq_ediv_of_nonneg (by omega), iw_id (by omega) (by omega)]; omega
  have ht' : iw (Int.tdiv (d : Int) 2) = ((d / 2 : Nat) : Int) := by rw [ht]; rfl
  have h0 : tab A B f = tab A B fun x b => if x = a ∧ d / 2 ≤ b ∧ b < d / 2 + 0 then f x b + w * g (x - d) (b - d / 2) else f x b := tab_congr fun x b _ _ => by rw [if_neg (by omega)]
  unfold impl_waysOf__impl_draws_1_l4
  rw [ht, h0]
  refine iter_to (fun j => (X.set i (tab A B fun x b => if x = a ∧ d / 2 ≤ b ∧ b < d / 2 + j then f x b + w * g (x - d) (b - d / 2) else f x b), ((d / 2 + j : Nat) : Int), ())) (B - d / 2) _ (fun j hj rec => ?_) (fun rec => ?_) k (by omega)
  · have hb := hf (d / 2 + j) (by omega) (by omega)
    have e1 : (iw ((i : Int) + 1)) = ((i + 1 : Nat) : Int) := iw_nat (by omega)
    have e2 : iw ((a : Int) - (d : Int)) = ((a - d : Nat) : Int) := by rw [iw_id (by omega) (by omega)]; omega
    have e3 : iw (((d / 2 + j : Nat) : Int) - iw (Int.tdiv (d : Int) 2)) = ((d / 2 + j - d / 2 : Nat) : Int) := by rw [ht', iw_id (by omega) (by omega)]; omega
    simp only [impl_waysOf__impl_draws_1_l4_b]
    rw [cond_dec, if_pos (by omega), e1, e2, e3, t3_get X i (by omega), t3_ne X i (i + 1) hi _ (by omega), hg, tab_get _ _ _ a ha', tab_get _ _ _ (a - d) (by omega), row_get _ _ (d / 2 + j) (by omega), row_get _ _ (d / 2 + j - d / 2) (by omega)]
    rw [ixk_in (by omega) (by simp; omega), ixk_in (by omega) (by rw [tab_len]; omega), ixk_in (by omega) (by rw [row_len]; omega), ixk_in (by omega) (by simp; omega), ixk_in (by omega) (by rw [tab_len]; omega), ixk_in (by omega) (by rw [row_len]; omega), ixk_in (by omega) (by rw [row_len]; omega)]
    rw [if_neg (by omega), show (w : Int) * ((g (a - d) (d / 2 + j - d / 2) : Nat) : Int) = ((w * g (a - d) (d / 2 + j - d / 2) : Nat) : Int) by exact_mod_cast rfl]
    generalize hz : w * g (a - d) (d / 2 + j - d / 2) = z at *
    rw [iw_id (x := (z : Int)) (by omega) (by omega), iw_id (by omega) (by omega), show ((f a (d / 2 + j) : Nat) : Int) + (z : Int) = ((f a (d / 2 + j) + z : Nat) : Int) by omega, row_set, tab_set, t3_set, iw_nat (by omega)]
    congr 2
    congr 1
    refine tab_congr fun x b _ _ => ?_
    by_cases hx : x = a
    · subst hx
      rw [if_pos rfl]
      by_cases hb' : b = d / 2 + j
      · subst hb'
        rw [if_pos rfl, if_pos (by omega), hz]
      · rw [if_neg hb']
        by_cases c : x = x ∧ d / 2 ≤ b ∧ b < d / 2 + j
        · rw [if_pos c, if_pos (by omega)]
        · rw [if_neg c, if_neg (by omega)]
    · rw [if_neg hx, if_neg (by omega), if_neg (by omega)]
  · simp only [impl_waysOf__impl_draws_1_l4_b]
    rw [cond_dec, if_neg (by omega)]
    congr 3
    congr 1
    refine tab_congr fun x b _ hb => ?_
    by_cases c : x = a ∧ d / 2 ≤ b
    · rw [if_pos c, if_pos (by omega)]
    · rw [if_neg c, if_neg (by omega)]
end
section
variable (k : Nat) (hk : 1000 ≤ k) (A B : Nat) (hA : 1 ≤ A) (hA' : A ≤ 161) (hB : 1 ≤ B) (hB' : B ≤ 81) (X : T3) (i : Nat) (hi : i + 1 < X.length) (hX : X.length ≤ 9) (g : Nat → Nat → Nat) (hg : X[i + 1] = tab A B g)
include hk hA hA' hB hB' hi hX hg
theorem dr3_is (d w : Nat) (hd : d < A) (hdB : d / 2 < B) (f : Nat → Nat → Nat) (hf : ∀ a b, a < A → d ≤ a → b < B → d / 2 ≤ b → f a b + w * g (a - d) (b - d / 2) ≤ 4611686018427387904) (u : Unit) :
    impl_waysOf__impl_draws_1_l3 k ((((A - 1 : Nat) : Int), u), u) ((((B - 1 : Nat) : Int), u), u) (i : Int) (d : Int) (((w : Int), u), u) (X.set i (tab A B f)) (d : Int) = some (.inl (X.set i (tab A B fun x b => if d ≤ x ∧ d / 2 ≤ b then f x b + w * g (x - d) (b - d / 2) else f x b), ())) := by
  have h0 : tab A B f = tab A B fun x b => if d ≤ x ∧ x < d + 0 ∧ d / 2 ≤ b then f x b + w * g (x - d) (b - d / 2) else f x b := tab_congr fun x b _ _ => by rw [if_neg (by omega)]
  unfold impl_waysOf__impl_draws_1_l3
  rw [show (d : Int) = ((d + 0 : Nat) : Int) from rfl, h0]
  refine iter_to (fun j => (X.set i (tab A B fun x b => if d ≤ x ∧ x < d + j ∧ d / 2 ≤ b then f x b + w * g (x - d) (b - d / 2) else f x b), ((d + j : Nat) : Int), ())) (A - d) _ (fun j hj rec => ?_) (fun rec => ?_) k (by omega)
  · simp only [impl_waysOf__impl_draws_1_l3_b]
    rw [Nat.add_zero, cond_dec, if_pos (by omega), dr4_is k hk A B hA hA' hB hB' X i d hi hX g hg w hd hdB (d + j) (by omega) (by omega) _ (fun b hb hb' => by rw [if_neg (by omega)]; exact hf _ b (by omega) (by omega) hb hb') u ((), ())]
    simp only [met_inl]
    rw [iw_nat (by omega)]
    congr 2
    congr 1
    refine tab_congr fun x b _ _ => ?_
    by_cases hx : x = d + j
    · by_cases hb : d / 2 ≤ b
      · rw [if_pos ⟨hx, hb⟩, if_neg (by omega), if_pos (by omega)]
      · rw [if_neg (by omega), if_neg (by omega), if_neg (by omega)]
    · rw [if_neg (fun h => hx h.1)]
      by_cases c : d ≤ x ∧ x < d + j ∧ d / 2 ≤ b
      · rw [if_pos c, if_pos (by omega)]
      · rw [if_neg c, if_neg (by omega)]
  · simp only [impl_waysOf__impl_draws_1_l3_b]
    rw [cond_dec, if_neg (by omega)]
    congr 3
    congr 1
    refine tab_congr fun x b hx _ => ?_
    by_cases c : d ≤ x ∧ d / 2 ≤ b
    · rw [if_pos c, if_pos (by omega)]
    · rw [if_neg c, if_neg (by omega)]
/-- What a colour adds. -/
def addC (c : Nat) (g : Nat → Nat → Nat) (n x b : Nat) : Nat := sumN (fun e => ones c e * (if e ≤ x ∧ e / 2 ≤ b then g (x - e) (b - e / 2) else 0)) n
theorem dr2_is (S : List Int) (c : Nat) (hc : c < A) (hcB : c / 2 < B) (hS : i < S.length) (hSc : rd S (i : Int) = (c : Int)) (hb : ∀ x b, x < A → b < B → addC c g (c + 1) x b ≤ 1099511627776) (u : Unit) :
    impl_waysOf__impl_draws_1_l2 k S ((((A - 1 : Nat) : Int), u), u) ((((B - 1 : Nat) : Int), u), u) (i : Int) (X.set i (tab A B fun _ _ => 0)) 0 = some (.inl (X.set i (tab A B (addC c g (c + 1))), ())) := by
  have hmono : ∀ d x b, d ≤ c + 1 → addC c g d x b ≤ addC c g (c + 1) x b := by
    intro d x b hd
    unfold addC
    have : ∀ n m : Nat, n ≤ m → ∀ f : Nat → Nat, sumN f n ≤ sumN f m := by
      intro n m h f
      induction m with
      | zero => rw [show n = 0 by omega]; exact Nat.le_refl _
      | succ m ih =>
        rcases Nat.lt_or_ge m n with h1 | h1
        · rw [show n = m + 1 by omega]; exact Nat.le_refl _
        · simp only [sumN]; have := ih h1; omega
    exact this _ _ hd _
  unfold impl_waysOf__impl_draws_1_l2
  rw [show tab A B (fun _ _ => 0) = tab A B (addC c g 0) from rfl]
  refine iter_to (fun d => (X.set i (tab A B (addC c g d)), (d : Int), ())) (c + 1) _ (fun d hd rec => ?_) (fun rec => ?_) k (by omega)
  · simp only [impl_waysOf__impl_draws_1_l2_b, impl_draws_1_f]
    rw [cond_dec, hSc, iw_nat (by omega), if_pos (by omega)]
    simp only [Option.bind_some]
    have hstep : ∀ x b, addC c g (d + 1) x b = if d ≤ x ∧ d / 2 ≤ b then addC c g d x b + 1 * g (x - d) (b - d / 2) else addC c g d x b := fun x b => by
      unfold addC
      simp only [sumN]
      by_cases h : d ≤ x ∧ d / 2 ≤ b
      · rw [if_pos h, if_pos h]; rfl
      · rw [if_neg h, if_neg h, Nat.mul_zero, Nat.add_zero]
    rw [show (((1 : Int), ()), ()) = ((((1 : Nat) : Int), ()), ()) from rfl, dr3_is k hk A B hA hA' hB hB' X i hi hX g hg d 1 (by omega) (by omega) _ (fun a b ha hda hb1 hb2 => by
      have h1 := hstep a b
      rw [if_pos ⟨hda, hb2⟩] at h1
      rw [← h1]
      have h2 := hmono (d + 1) a b (by omega)
      have h3 := hb a b ha hb1
      omega) ()]
    simp only [met_inl]
    rw [iw_nat (by omega)]
    congr 2
    congr 1
    exact tab_congr fun x b _ _ => (hstep x b).symm
  · simp only [impl_waysOf__impl_draws_1_l2_b]
    rw [cond_dec, hSc, iw_nat (by omega), if_neg (by omega)]
end
theorem table_is (k : Nat) (hk : 1000 ≤ k) (A B : Nat) (hA : 1 ≤ A) (hA' : A ≤ 161) (hB : 1 ≤ B) (hB' : B ≤ 81) (u : Unit) : impl_waysOf_1_f k (((A - 1 : Nat) : Int), u) (((B - 1 : Nat) : Int), u) = some ((tab A B fun _ _ => 0, ()), ()) := by
  have eA : iw (((A - 1 : Nat) : Int) + 1) = (A : Int) := by rw [iw_nat (by omega)]; omega
  have eB : iw (((B - 1 : Nat) : Int) + 1) = (B : Int) := by rw [iw_nat (by omega)]; omega
  unfold impl_waysOf_1_f
  rw [eA, chk_dec (by omega), chk_dec (by omega), Int.toNat_natCast]
  have h : impl_waysOf_1_l1 k (((A - 1 : Nat) : Int), u) (((B - 1 : Nat) : Int), u) (List.replicate A ([] : List Int)) 0 = some (.inl (tab A B fun _ _ => 0, ())) := by
    have h0 : List.replicate A ([] : List Int) = (List.range A).map fun a => if a < 0 then row B fun _ => 0 else [] := by
      simp [List.map_const']
    unfold impl_waysOf_1_l1
    rw [h0]
    refine iter_to (fun j => ((List.range A).map fun a => if a < j then row B fun _ => 0 else [], (j : Int), ())) A _ (fun j hj rec => ?_) (fun rec => ?_) k (by omega)
    · simp only [impl_waysOf_1_l1_b]
      rw [cond_dec, eA, eB, Int.toNat_natCast, if_pos (by simp; omega), chk_dec (by omega), chk_dec (by omega), ixk_in (by omega) (by simp; omega), iw_nat (by omega)]
      congr 2
      unfold setI
      rw [Int.toNat_natCast, map_set, Int.toNat_natCast]
      refine List.map_congr_left fun a _ => ?_
      by_cases h1 : a = j
      · rw [if_pos h1, if_pos (by omega)]
        simp [row, List.map_const']
      · rw [if_neg h1]
        by_cases h2 : a < j
        · rw [if_pos h2, if_pos (by omega)]
        · rw [if_neg h2, if_neg (by omega)]
    · simp only [impl_waysOf_1_l1_b]
      rw [cond_dec, eA, Int.toNat_natCast, if_neg (by simp)]
      congr 3
      unfold tab
      refine List.map_congr_left fun a ha => ?_
      rw [if_pos (List.mem_range.1 ha)]
  rw [h]; rfl
theorem addC_W (c : Nat) (S : List Nat) (x b : Nat) : addC c (fun a b => W ones (fun d : Nat => d / 2) S (a : Int) (b : Int)) (c + 1) x b = W ones (fun d : Nat => d / 2) (c :: S) (x : Int) (b : Int) := by
  unfold addC
  simp only [W]
  refine sumN_congr _ fun d _ => ?_
  congr 1
  by_cases h : d ≤ x ∧ d / 2 ≤ b
  · rw [if_pos h, show ((x - d : Nat) : Int) = (x : Int) - d by omega, show ((b - d / 2 : Nat) : Int) = (b : Int) - ((d / 2 : Nat) : Int) by omega]
  · rw [if_neg h, W_neg ones (fun d : Nat => d / 2) S _ _ (by omega)]
def wtO (A B : Nat) (N : List Nat) : List (List Int) := tab A B fun a b => W ones (fun d : Nat => d / 2) N (a : Int) (b : Int)
def xsO (A B : Nat) (N : List Nat) (n j : Nat) : T3 := (List.range (n + 1)).map fun t => if n - j ≤ t then wtO A B (N.drop t) else []
theorem xsO_len (A B : Nat) (N : List Nat) (n j : Nat) : (xsO A B N n j).length = n + 1 := by simp [xsO]
theorem wtabO_is (k : Nat) (hk : 1000 ≤ k) {S : List Int} (F : Good S) :
    impl_waysOf__impl_draws_1_f k S () = some ((xsO (total (nats' S) + 1) (halves (nats' S) + 1) (nats' S) S.length S.length, ()), ()) := by
  have l8 := F.l8
  have l0 := F.l0
  have le := (good_sum F).2.1
  have hT := total_nats F.inS
  have hH := halves2 (nats' S)
  have hN := nats_len S
  have hsm : sumW S = (total (nats' S) : Int) := by rw [hT, sumW_is F.inS (by omega)]
  obtain ⟨T, hTT⟩ : ∃ T, total (nats' S) = T := ⟨_, rfl⟩
  obtain ⟨H, hHH⟩ : ∃ H, halves (nats' S) = H := ⟨_, rfl⟩
  obtain ⟨n, hn⟩ : ∃ n, S.length = n := ⟨_, rfl⟩
  unfold impl_waysOf__impl_draws_1_f
  rw [total_is k S (by omega) (by omega), pairsOf_is k hk F, hsm]
  simp only [Option.bind_some]
  rw [hTT, hHH, hn]
  rw [hTT] at hT hH
  rw [hHH] at hH
  rw [hn] at l8 l0 hN
  have e1 : iw ((n : Int) + 1) = ((n + 1 : Nat) : Int) := iw_nat (by omega)
  have tb : ∀ u : Unit, impl_waysOf_1_f k ((T : Int), u) ((H : Int), u) = some ((tab (T + 1) (H + 1) fun _ _ => 0, ()), ()) := fun u => table_is k hk (T + 1) (H + 1) (by omega) (by omega) (by omega) (by omega) u
  rw [e1, chk_dec (by omega), chk_dec (by omega), tb ()]
  simp only [Option.bind_some, Int.toNat_natCast]
  have r0 : List.replicate (n + 1) ([] : List (List Int)) = (List.range (n + 1)).map fun _ => [] := by simp [List.map_const']
  have s1 : ∀ v : List (List Int), setI (List.replicate (n + 1) ([] : List (List Int))) (n : Int) v = (List.replicate (n + 1) ([] : List (List Int))).set n v := fun v => by unfold setI; rw [Int.toNat_natCast]
  have q1 : ∀ v : List (List Int), rdG [] (setI (List.replicate (n + 1) ([] : List (List Int))) (n : Int) v) (n : Int) = v := fun v => by rw [s1, t3_get _ n (by simp) _]
  have q2 : ∀ v w : List (List Int), setI (setI (List.replicate (n + 1) ([] : List (List Int))) (n : Int) v) (n : Int) w = (List.replicate (n + 1) ([] : List (List Int))).set n w := fun v w => by rw [s1, t3_set]
  have g0 : rdG [] (tab (T + 1) (H + 1) fun _ _ => 0) 0 = row (H + 1) fun _ => 0 := tab_get (T + 1) (H + 1) _ 0 (by omega)
  rw [ixk_in (by omega) (by simp; omega), ixk_in (by omega) (by rw [s1]; simp; omega), chk_dec (by rw [q1, tab_len]; omega), chk_dec (by rw [q1, g0, row_len]; omega), q2, q1, g0]
  have w0 : setI (tab (T + 1) (H + 1) fun _ _ => 0) 0 (setI (row (H + 1) fun _ => 0) 0 1) = wtO (T + 1) (H + 1) [] := by
    have a1 := row_set (H + 1) (fun _ => 0) 0 1
    have a2 := tab_set (T + 1) (H + 1) (fun _ _ => 0) 0 (fun i => if i = 0 then 1 else 0)
    simp only [Int.natCast_zero] at a1 a2
    rw [show ((1 : Nat) : Int) = 1 from rfl] at a1
    rw [a1, a2]
    refine tab_congr fun x b _ _ => ?_
    simp only [W]
    by_cases hx : x = 0
    · subst hx
      by_cases hb : b = 0
      · subst hb; simp
      · rw [if_pos rfl, if_neg hb, if_neg (by omega)]
    · rw [if_neg hx, if_neg (by omega)]
  rw [w0]
  have x0 : (List.replicate (n + 1) ([] : List (List Int))).set n (wtO (T + 1) (H + 1) []) = xsO (T + 1) (H + 1) (nats' S) n 0 := by
    rw [r0, map_set]
    unfold xsO
    refine List.map_congr_left fun t ht => ?_
    have := List.mem_range.1 ht
    by_cases h : t = n
    · subst h; rw [if_pos rfl, if_pos (by omega), List.drop_of_length_le (by omega)]
    · rw [if_neg h, if_neg (by omega)]
  rw [x0]
  have hl : impl_waysOf__impl_draws_1_l1 k S (((T : Int), ()), ()) (((H : Int), ()), ()) (xsO (T + 1) (H + 1) (nats' S) n 0) (iw ((n : Int) - 1)) = some (.inl (xsO (T + 1) (H + 1) (nats' S) n n, ())) := by
    unfold impl_waysOf__impl_draws_1_l1
    rw [show iw ((n : Int) - 1) = (n : Int) - 1 - ((0 : Nat) : Int) by rw [iw_id (by omega) (by omega)]; omega]
    refine iter_to (fun j => (xsO (T + 1) (H + 1) (nats' S) n j, (n : Int) - 1 - (j : Int), ())) n _ (fun j hj rec => ?_) (fun rec => ?_) k (by omega)
    · obtain ⟨i, hi⟩ : ∃ i : Nat, i + j + 1 = n := ⟨n - 1 - j, by omega⟩
      have ei : (n : Int) - 1 - (j : Int) = (i : Int) := by omega
      have hXl := xsO_len (T + 1) (H + 1) (nats' S) n j
      have hpart := part_le (nats' S) i (by omega)
      simp only [impl_waysOf__impl_draws_1_l1_b]
      rw [ei, cond_dec, if_pos (by omega), tb ()]
      simp only [Option.bind_some]
      rw [ixk_in (by omega) (by omega), ixk_in (by omega) (by omega), show setI (xsO (T + 1) (H + 1) (nats' S) n j) (i : Int) (tab (T + 1) (H + 1) fun _ _ => 0) = (xsO (T + 1) (H + 1) (nats' S) n j).set i (tab (T + 1) (H + 1) fun _ _ => 0) by unfold setI; rw [Int.toNat_natCast]]
      have hg : (xsO (T + 1) (H + 1) (nats' S) n j)[i + 1]'(by omega) = tab (T + 1) (H + 1) fun a b => W ones (fun d : Nat => d / 2) ((nats' S).drop (i + 1)) (a : Int) (b : Int) := by
        simp only [xsO, List.getElem_map, List.getElem_range]
        rw [if_pos (by omega)]; rfl
      have hdr : (nats' S).drop i = (nats' S)[i]'(by omega) :: (nats' S).drop (i + 1) := List.drop_eq_getElem_cons (by omega)
      have hW : ∀ x b, addC ((nats' S)[i]'(by omega)) (fun a b => W ones (fun d : Nat => d / 2) ((nats' S).drop (i + 1)) (a : Int) (b : Int)) ((nats' S)[i]'(by omega) + 1) x b = W ones (fun d : Nat => d / 2) ((nats' S).drop i) (x : Int) (b : Int) := fun x b => by rw [addC_W, hdr]
      have hl2 := dr2_is k hk (T + 1) (H + 1) (by omega) (by omega) (by omega) (by omega) (xsO (T + 1) (H + 1) (nats' S) n j) i (by omega) (by omega) _ hg S ((nats' S)[i]'(by omega)) (by omega) (by omega) (by omega) (nats_get F.inS i (by omega)) (fun x b _ _ => by
        rw [hW]
        have h1 := WO_le ((nats' S).drop i) (x : Int) (b : Int)
        have h2 := V_small (S := (nats' S).drop i) (x : Int) (fun n hn => nats_in F.inS n (List.mem_of_mem_drop hn)) (by rw [List.length_drop]; omega)
        omega) ()
      simp only [Nat.add_sub_cancel] at hl2
      rw [hl2]
      simp only [met_inl]
      rw [show iw ((i : Int) - 1) = (n : Int) - 1 - ((j + 1 : Nat) : Int) by rw [iw_id (by omega) (by omega)]; omega]
      congr 2
      unfold xsO
      rw [map_set]
      refine List.map_congr_left fun t ht => ?_
      have := List.mem_range.1 ht
      by_cases h : t = i
      · subst h
        rw [if_pos rfl, if_pos (by omega)]
        exact tab_congr fun x b _ _ => hW x b
      · rw [if_neg h]
        by_cases h2 : n - j ≤ t
        · rw [if_pos h2, if_pos (by omega)]
        · rw [if_neg h2, if_neg (by omega)]
    · simp only [impl_waysOf__impl_draws_1_l1_b]
      rw [cond_dec, if_neg (by omega)]
  rw [hl]
  rfl
theorem draws_is (k : Nat) (hk : 1000 ≤ k) {S : List Int} (F : Good S) : impl_draws_f k S = some ((xsO (total (nats' S) + 1) (halves (nats' S) + 1) (nats' S) S.length S.length, ()), ()) := by
  unfold impl_draws_f
  rw [wtabO_is k hk F]
  rfl

/-! ### The number of draws -/
theorem V_snoc (wt : Nat → Nat → Nat) (S : List Nat) (n : Nat) (k : Int) : V wt (S ++ [n]) k = sumN (fun d => wt n d * V wt S (k - d)) (n + 1) := by
  rw [← V_zero, W_snoc]
  refine sumN_congr _ fun d _ => ?_
  rw [show (0 : Int) - (((fun _ : Nat => 0) d : Nat) : Int) = 0 by simp, V_zero]
theorem row_succ (B : Nat) (f : Nat → Nat) : row (B + 1) f = row B f ++ [(f B : Int)] := by
  unfold row
  rw [List.range_succ, List.map_append]; rfl
theorem sumW_row (f : Nat → Nat) : ∀ B, sumN f B ≤ 4611686018427387904 → sumW (row B f) = (sumN f B : Int)
  | 0, _ => rfl
  | B + 1, h => by
    simp only [sumN] at h ⊢
    have ih := sumW_row f B (by omega)
    unfold sumW at ih ⊢
    rw [row_succ, List.foldl_append, ih]
    simp only [List.foldl_cons, List.foldl_nil]
    rw [iw_id (by omega) (by omega)]; omega
theorem V_good {S : List Int} (G : Good S) (m : Int) : V ones (nats' S) m ≤ 37822859361 := V_small m (nats_in G.inS) (by rw [nats_len]; exact G.l8)
def countVal (S : List Int) (m : Int) : (Int × Bool × Unit) × Unit := if (good S && decide (0 ≤ m)) = true then (((V ones (nats' S) m : Int), true, ()), ()) else ((0, false, ()), ())
theorem implCount_is (k : Nat) (hk : 1000 ≤ k) (S : List Int) (h8 : S.length ≤ 8) (m : Int) : impl_CountDraws_f k S m = some (countVal S m) := by
  unfold impl_CountDraws_f countVal
  rw [areSocks_is k (by omega) S h8]
  cases hg : good S with
  | false => rfl
  | true =>
    have G := good_is hg
    obtain ⟨h1, h2, h3⟩ := good_sum G
    simp only [Option.bind_some, Bool.not_true, cond_false, Bool.true_and, met_inl]
    by_cases hm : 0 ≤ m
    · obtain ⟨n, rfl⟩ : ∃ n : Nat, m = (n : Int) := ⟨m.toNat, by omega⟩
      have hV := V_good G (n : Int)
      rw [decide_eq_true hm, decide_eq_false (show ¬ ((n : Int) < 0) by omega), if_pos rfl, total_is k S (by omega) (by omega), h1]
      simp only [cond_false, Option.bind_some]
      by_cases hle : n ≤ total (nats' S)
      · rw [cond_dec, if_neg (by omega), draws_is k hk G]
        simp only [Option.bind_some]
        have hH := halves2 (nats' S)
        have ex : rdG [] (xsO (total (nats' S) + 1) (halves (nats' S) + 1) (nats' S) S.length S.length) 0 = wtO (total (nats' S) + 1) (halves (nats' S) + 1) (nats' S) := by
          rw [show (0 : Int) = ((0 : Nat) : Int) from rfl, rdG_nat _ _ 0 (by rw [xsO_len]; omega)]
          simp [xsO]
        have er : rdG [] (wtO (total (nats' S) + 1) (halves (nats' S) + 1) (nats' S)) (n : Int) = row (halves (nats' S) + 1) fun p => W ones (fun d : Nat => d / 2) (nats' S) (n : Int) (p : Int) := tab_get _ _ _ n (by omega)
        have es : sumN (fun p : Nat => W ones (fun d : Nat => d / 2) (nats' S) (n : Int) (p : Int)) (halves (nats' S) + 1) = V ones (nats' S) (n : Int) := by
          rw [← W_sum ones (fun d : Nat => d / 2) 2 (by omega) half_le (nats' S) (n : Int) (total (nats' S) + 1) (by omega)]
          refine (sumN_more (by omega) fun p h4 _ => ?_).symm
          refine W_far ones (fun d : Nat => d / 2) (fun d n hd => Nat.div_le_div_right hd) _ _ _ ?_
          rw [halves_is]; omega
        rw [ex, er, chk_dec (by rw [xsO_len]; omega), ixk_in (by omega) (by unfold wtO; rw [tab_len]; omega), total_is k _ (by rw [row_len]; omega) (by rw [row_len]; omega), sumW_row _ _ (by rw [es]; omega), es]
        simp only [Option.bind_some]
        rw [cond_dec, if_neg (by omega)]
      · rw [cond_dec, if_pos (by omega), V_over ones _ _ (by omega)]; rfl
    · rw [decide_eq_false hm, decide_eq_true (show m < 0 by omega)]; rfl
/-! ### The reference's number of draws -/
def ptO (f : Nat → Nat) (x j t : Nat) : Nat := sumN (fun d => if t = x + d then f x else 0) j
def upO (c : Nat) (f : Nat → Nat) (a t : Nat) : Nat := sumN (fun x => ptO f x (c + 1) t) a
theorem upO_is (c m : Nat) (N : List Nat) (t : Nat) (ht : t ≤ m) : upO c (fun x => V ones N (x : Int)) (m + 1) t = V ones (N ++ [c]) (t : Int) := by
  unfold upO ptO
  rw [sumN_comm, V_snoc]
  refine sumN_congr _ fun d _ => ?_
  have e1 : ones c d = 1 := rfl
  rw [e1, Nat.one_mul]
  by_cases h : d ≤ t
  · have key : ∀ x, (if t = x + d then V ones N (x : Int) else 0) = if x = t - d then V ones N ((t : Int) - d) else 0 := fun x => by
      by_cases e : x = t - d
      · rw [if_pos e, if_pos (by omega), show (x : Int) = (t : Int) - d by omega]
      · rw [if_neg e, if_neg (by omega)]
    rw [sumN_congr _ fun x _ => key x, sumN_one, if_pos (by omega)]
  · rw [V_neg ones _ _ (by omega)]
    exact sumN_zero _ fun x _ => by rw [if_neg (by omega)]
section
variable (k : Nat) (hk : 1000 ≤ k) (m : Nat) (hm : m ≤ 160) (S : List Int) (i c : Nat) (hc : c ≤ 20) (hi : i < S.length) (hSc : rd S (i : Int) = (c : Int)) (w : Nat → Nat)
include hk hm hc hi hSc
theorem so3_is (a : Nat) (ha : a ≤ m) (f : Nat → Nat) (hf : ∀ t, t ≤ m → f t + ptO w a (c + 1) t ≤ 37822859361) :
    spec_soCounts_l3 k S (m : Int) (-1) ((0, ()), ()) (row (m + 1) w) (i : Int) (a : Int) (row (m + 1) f) 0 = some (.inl (row (m + 1) (fun t => f t + ptO w a (c + 1) t), ())) := by
  have _hi := hi
  have e1 : iw ((0 : Int) + 1) = 1 := rfl
  have hmono : ∀ j t, j ≤ c + 1 → ptO w a j t ≤ ptO w a (c + 1) t := fun j t hj => sumN_mono hj
  unfold spec_soCounts_l3
  rw [show row (m + 1) f = row (m + 1) (fun t => f t + ptO w a 0 t) from rfl]
  refine iter_to (fun j => (row (m + 1) (fun t => f t + ptO w a j t), (j : Int), ())) (min (c + 1) (m + 1 - a)) _ (fun j hj rec => ?_) (fun rec => ?_) k (by omega)
  · have hstep : ∀ t, ptO w a (j + 1) t = ptO w a j t + (if t = a + j then w a else 0) := fun t => rfl
    have hb1 := hf (a + j) (by omega)
    have hb2 := hmono (j + 1) (a + j) (by omega)
    rw [hstep, if_pos rfl] at hb2
    simp only [spec_soCounts_l3_b, e1]
    rw [Int.tdiv_one, Int.tmod_one, iw_id (x := (a : Int)) (by omega) (by omega), hSc, cond_dec, if_pos (by omega), iw_id (x := (a : Int) + (j : Int)) (by omega) (by omega), decide_eq_true (show (a : Int) + (j : Int) ≤ (m : Int) by omega), show decide ((-1 : Int) ≥ 0) = false from rfl]
    simp only [met_inl, cond_true, cond_false]
    rw [show decide ((0 : Int) < 1) = true from rfl]
    simp only [cond_true]
    rw [Int.mul_one, iw_id (x := (a : Int) + (j : Int)) (by omega) (by omega), Int.add_zero, iw_id (x := (a : Int) + (j : Int)) (by omega) (by omega), show (a : Int) + (j : Int) = ((a + j : Nat) : Int) by omega, row_get _ _ (a + j) (by omega), row_get _ _ a (by omega), ixk_in (by omega) (by rw [row_len]; omega), iw_id (by omega) (by omega), least_l1, if_pos (by omega)]
    simp only [Option.bind_some]
    rw [ixk_in (by omega) (by rw [row_len]; omega), show ((f (a + j) + ptO w a j (a + j) : Nat) : Int) + (w a : Int) = ((f (a + j) + ptO w a j (a + j) + w a : Nat) : Int) by omega, row_set]
    simp only [met_inl]
    rw [iw_nat (by omega)]
    congr 2
    refine row_congr fun t _ => ?_
    rw [hstep]
    by_cases h : t = a + j
    · subst h; rw [if_pos rfl, if_pos rfl]; omega
    · rw [if_neg h, if_neg h]; rfl
  · have hres : row (m + 1) (fun t => f t + ptO w a (min (c + 1) (m + 1 - a)) t) = row (m + 1) (fun t => f t + ptO w a (c + 1) t) := row_congr fun t ht => by
      congr 1
      exact (sumN_more (by omega) fun d h1 h2 => by rw [if_neg (by omega)]).symm
    simp only [spec_soCounts_l3_b, e1]
    rw [Int.tdiv_one, Int.tmod_one, iw_id (x := (a : Int)) (by omega) (by omega), hSc, cond_dec, hres]
    by_cases h : ((min (c + 1) (m + 1 - a) : Nat) : Int) ≤ (c : Int)
    · rw [if_pos h, iw_id (by omega) (by omega), decide_eq_false (by omega)]
      rfl
    · rw [if_neg h]; rfl
theorem so2_is (N : List Nat) (hw : ∀ a, w a = V ones N (a : Int)) (hN : ∀ t : Nat, V ones (N ++ [c]) (t : Int) ≤ 37822859361) :
    spec_soCounts_l2 k S (m : Int) (-1) ((0, ()), ()) (row (m + 1) w) (i : Int) (row (m + 1) fun _ => 0) 0 = some (.inl (row (m + 1) (fun t => V ones (N ++ [c]) (t : Int)), ())) := by
  have hfun : w = fun a : Nat => V ones N (a : Int) := funext hw
  have hfull : ∀ t, t ≤ m → upO c w (m + 1) t = V ones (N ++ [c]) (t : Int) := fun t ht => by rw [hfun]; exact upO_is c m N t ht
  have hbound : ∀ a t, a ≤ m + 1 → t ≤ m → upO c w a t ≤ 37822859361 := fun a t ha ht => by
    have h1 : upO c w a t ≤ upO c w (m + 1) t := sumN_mono ha
    rw [hfull t ht] at h1
    have := hN t
    omega
  unfold spec_soCounts_l2
  rw [show row (m + 1) (fun _ => 0) = row (m + 1) (upO c w 0) from rfl]
  refine iter_to (fun a => (row (m + 1) (upO c w a), (a : Int), ())) (m + 1) _ (fun a ha rec => ?_) (fun rec => ?_) k (by omega)
  · have hstep : ∀ t, upO c w (a + 1) t = upO c w a t + ptO w a (c + 1) t := fun t => rfl
    simp only [spec_soCounts_l2_b]
    rw [cond_dec, if_pos (by rw [row_len]; omega), ixk_in (by omega) (by rw [row_len]; omega), row_get _ _ a ha, iw_nat (by omega)]
    by_cases h0 : w a = 0
    · have e : ((w a : Int) == 0) = true := by rw [h0]; rfl
      rw [e]
      simp only [cond_true, met_inl]
      congr 2
      refine row_congr fun t _ => ?_
      rw [hstep]
      have : ptO w a (c + 1) t = 0 := sumN_zero _ fun d _ => by rw [h0]; split <;> rfl
      omega
    · have e : ((w a : Int) == 0) = false := by simp; omega
      rw [e, show (!((iw ((0 : Int) + 1)) == 0)) = true from rfl]
      simp only [cond_false]
      rw [chk_true rfl, chk_true rfl, so3_is k hk m hm S i c hc hi hSc w a (by omega) _ (fun t ht => by rw [← hstep]; exact hbound (a + 1) t (by omega) ht)]
      rfl
  · simp only [spec_soCounts_l2_b]
    rw [cond_dec, if_neg (by rw [row_len]; omega)]
    congr 3
    exact row_congr fun t ht => hfull t (by omega)
end
theorem soCounts_is (k : Nat) (hk : 1000 ≤ k) {S : List Int} (G : Good S) (m : Nat) (hm : m ≤ 160) : spec_soCounts_f k S (m : Int) (-1) = some (((V ones (nats' S) (m : Int) : Int), ()), ()) := by
  have l8 := G.l8
  have hN := nats_len S
  have e1 : iw ((m : Int) + 1) = ((m + 1 : Nat) : Int) := iw_nat (by omega)
  have hrep : ∀ n, List.replicate n (0 : Int) = row n fun _ => 0 := fun n => by simp [row, List.map_const']
  unfold spec_soCounts_f
  rw [most_l1, if_neg (by decide)]
  simp only [Option.bind_some]
  rw [e1, show iw ((0 : Int) + 1) = 1 from rfl, Int.mul_one, iw_id (x := ((m + 1 : Nat) : Int)) (by omega) (by omega), Int.toNat_natCast, hrep, chk_dec (by omega), chk_dec (by omega), chk_dec (by rw [row_len]; omega)]
  have h0 : setI (row (m + 1) fun _ => 0) 0 1 = row (m + 1) (fun t => V ones ((nats' S).take 0) (t : Int)) := by
    have a1 := row_set (m + 1) (fun _ => 0) 0 1
    rw [show ((0 : Nat) : Int) = 0 from rfl, show ((1 : Nat) : Int) = 1 from rfl] at a1
    rw [a1]
    refine row_congr fun t _ => ?_
    simp only [List.take_zero, V]
    by_cases h : t = 0
    · rw [if_pos h, if_pos (by omega)]
    · rw [if_neg h, if_neg (by omega)]
  have hl : spec_soCounts_l1 k S (m : Int) (-1) ((0, ()), ()) (setI (row (m + 1) fun _ => 0) 0 1) 0 = some (.inl (row (m + 1) (fun t => V ones (nats' S) (t : Int)), ())) := by
    rw [h0]
    unfold spec_soCounts_l1
    refine iter_to (fun i => (row (m + 1) (fun t => V ones ((nats' S).take i) (t : Int)), (i : Int), ())) S.length _ (fun i hi rec => ?_) (fun rec => ?_) k (by omega)
    · have htk : (nats' S).take (i + 1) = (nats' S).take i ++ [at' S i] := by rw [at_get i hi]; exact List.take_succ_eq_append_getElem (by omega)
      simp only [spec_soCounts_l1_b]
      rw [cond_dec, if_pos (by omega), ixk_in (by omega) (by omega), row_len, Int.toNat_natCast, hrep, chk_dec (by omega), chk_dec (by omega), so2_is k hk m hm S i (at' S i) (at_le G.inS i) hi (at_is G.inS i) _ ((nats' S).take i) (fun _ => rfl) (fun t => by
        rw [← htk]
        exact V_small (t : Int) (fun n hn => nats_in G.inS n (List.mem_of_mem_take hn)) (by rw [List.length_take]; omega))]
      simp only [met_inl]
      rw [← htk, iw_nat (by omega)]
    · simp only [spec_soCounts_l1_b]
      rw [cond_dec, if_neg (by omega), List.take_of_length_le (by omega)]
  rw [hl]
  simp only [met_inl]
  rw [Int.mul_one, iw_id (x := (m : Int)) (by omega) (by omega), Int.add_zero, iw_id (x := (m : Int)) (by omega) (by omega), row_get _ _ m (by omega), ixk_in (by omega) (by rw [row_len]; omega)]
theorem soDraws_is (k : Nat) (hk : 1000 ≤ k) {S : List Int} (G : Good S) (m : Nat) : spec_soDraws_f k S (m : Int) = some (((V ones (nats' S) (m : Int) : Int), ()), ()) := by
  have l8 := G.l8
  obtain ⟨h1, h2, h3⟩ := good_sum G
  unfold spec_soDraws_f
  rw [soSum_is k S (by omega) (by omega), h1]
  simp only [Option.bind_some]
  by_cases h : m ≤ total (nats' S)
  · rw [cond_dec, if_neg (by omega), soCounts_is k hk G m (by omega)]; rfl
  · rw [cond_dec, if_pos (by omega), V_over ones _ _ (by omega)]; rfl

/-! ### All draws, in order -/
def enum : List Nat → Nat → List (List Int)
  | [], left => if left = 0 then [[]] else []
  | n :: S, left => (List.range (n + 1)).flatMap fun d => if d ≤ left then (enum S (left - d)).map ((d : Int) :: ·) else []
def item (S : List Nat) (left d : Nat) : List (List Int) := if d ≤ left then (enum S (left - d)).map ((d : Int) :: ·) else []
theorem enum_cons (n : Nat) (S : List Nat) (left : Nat) : enum (n :: S) left = (List.range (n + 1)).flatMap (item S left) := rfl
theorem enum_over : ∀ (S : List Nat) (left : Nat), total S < left → enum S left = []
  | [], left, h => by simp only [enum]; rw [if_neg (by omega)]
  | n :: S, left, h => by
    rw [enum_cons, List.flatMap_eq_nil_iff]
    intro d hd
    have := List.mem_range.1 hd
    simp only [total] at h
    unfold item
    rw [if_pos (by omega), enum_over S _ (by omega)]; rfl
theorem item_far {S : List Nat} {left d : Nat} (h : left < d ∨ total S < left - d) : item S left d = [] := by
  unfold item
  by_cases h1 : d ≤ left
  · rw [if_pos h1, enum_over _ _ (by omega)]; rfl
  · rw [if_neg h1]
def sg (S : List Nat) (left : Nat) (P : List Int) (j : Nat) : List (List Int) := ((List.range j).flatMap (item S left)).map (P ++ ·)
theorem sg_succ (S : List Nat) (left : Nat) (P : List Int) (j : Nat) : sg S left P (j + 1) = sg S left P j ++ (item S left j).map (P ++ ·) := by
  unfold sg
  rw [List.range_succ, List.flatMap_append, List.map_append]
  simp
theorem sg_more {S : List Nat} {left : Nat} {P : List Int} {a : Nat} : ∀ {b : Nat}, a ≤ b → (∀ d, a ≤ d → d < b → item S left d = []) → sg S left P b = sg S left P a
  | 0, h, _ => by rw [show a = 0 by omega]
  | b + 1, h, h0 => by
    rcases Nat.lt_or_ge b a with h1 | h1
    · rw [show a = b + 1 by omega]
    · rw [sg_succ, h0 b h1 (by omega), List.map_nil, List.append_nil, sg_more h1 fun d h2 h3 => h0 d h2 (by omega)]
theorem item_pre {S : List Nat} {left d : Nat} (P : List Int) (h : d ≤ left) : (item S left d).map (P ++ ·) = (enum S (left - d)).map ((P ++ [(d : Int)]) ++ ·) := by
  unfold item
  rw [if_pos h, List.map_map]
  refine List.map_congr_left fun x _ => ?_
  simp
/-! ### The best of them -/
abbrev Bst := List Int × Int
def stepB (w : List Int → Nat) (b : Bst) (x : List Int) : Bst := if (w x : Int) > b.2 then (x, (w x : Int)) else b
def bst (w : List Int → Nat) (b : Bst) (L : List (List Int)) : Bst := L.foldl (stepB w) b
theorem bst_app (w : List Int → Nat) (b : Bst) (L M : List (List Int)) : bst w b (L ++ M) = bst w (bst w b L) M := List.foldl_append
theorem bst_join (w : List Int → Nat) : ∀ (L : List (List Int)) (b : Bst), 0 ≤ b.2 → bst w b L = if (bst w ([], 0) L).2 > b.2 then bst w ([], 0) L else b
  | [], b, h => (if_neg (show ¬ (0 : Int) > b.2 by omega)).symm
  | x :: L, b, h => by
    have e : ∀ c : Bst, bst w c (x :: L) = bst w (stepB w c x) L := fun c => rfl
    have p : ∀ c : Bst, 0 ≤ c.2 → 0 ≤ (stepB w c x).2 := fun c hc => by
      unfold stepB
      split
      · exact Int.natCast_nonneg _
      · exact hc
    rw [e, e, bst_join w L _ (p b h), bst_join w L (stepB w ([], 0) x) (p _ (Int.le_refl 0))]
    generalize bst w ([], 0) L = c
    unfold stepB
    by_cases h1 : (w x : Int) > b.2
    · rw [if_pos h1, if_pos (show (w x : Int) > (([], 0) : Bst).2 from by show (w x : Int) > 0; omega)]
      by_cases h2 : c.2 > (w x : Int)
      · rw [if_pos h2, if_pos (by omega)]
      · rw [if_neg h2, if_pos (show ((x, (w x : Int)) : Bst).2 > b.2 from h1)]
    · rw [if_neg h1]
      by_cases h3 : (w x : Int) > 0
      · rw [if_pos (show (w x : Int) > (([], 0) : Bst).2 from h3)]
        by_cases h2 : c.2 > (w x : Int)
        · rw [if_pos (show c.2 > ((x, (w x : Int)) : Bst).2 from h2)]
        · rw [if_neg (show ¬ c.2 > ((x, (w x : Int)) : Bst).2 from h2), if_neg (show ¬ ((x, (w x : Int)) : Bst).2 > b.2 from h1), if_neg (by omega)]
      · rw [if_neg (show ¬ (w x : Int) > (([], 0) : Bst).2 from h3)]
        by_cases h2 : c.2 > 0
        · rw [if_pos (show c.2 > (([], 0) : Bst).2 from h2)]
        · rw [if_neg (show ¬ c.2 > (([], 0) : Bst).2 from h2), if_neg (show ¬ (([], 0) : Bst).2 > b.2 from by show ¬ (0 : Int) > b.2; omega), if_neg (by omega)]
theorem bst_start (w : List Int → Nat) (L : List (List Int)) (h : ∀ x ∈ L, 0 < w x) : (bst w ([], -1) L).1 = (bst w ([], 0) L).1 := by
  cases L with
  | nil => rfl
  | cons x L =>
    have := h x (by simp)
    have e : ∀ c : Bst, bst w c (x :: L) = bst w (stepB w c x) L := fun c => rfl
    rw [e, e]
    unfold stepB
    rw [if_pos (show (w x : Int) > (([], -1) : Bst).2 from by show (w x : Int) > -1; omega), if_pos (show (w x : Int) > (([], 0) : Bst).2 from by show (w x : Int) > 0; omega)]
/-! ### The search -/
theorem rest_is {S : List Int} (h : in20 S) (hl : S.length ≤ 8) (j : Nat) : sumW (S.drop j) = (total ((nats' S).drop j) : Int) := by
  have h1 : in20 (S.drop j) := fun x hx => h x (List.mem_of_mem_drop hx)
  rw [sumW_is h1 (by rw [List.length_drop]; omega), ← total_nats h1]
  simp [nats', List.map_drop]
theorem clone_is (k : Nat) (P : List Int) (h : P.length ≤ 8) : slices_Clone_int_int_f k P = some ((P, ()), ()) := by
  unfold slices_Clone_int_int_f
  rw [chk_dec (by omega)]
  cases P with
  | nil => exact andX_same _
  | cons x P => rfl
theorem own_is (k : Nat) (P : List Int) (h : P.length ≤ 8) : spec_l1Own_f k P = some ((P, ()), ()) := by
  unfold spec_l1Own_f
  rw [chk_dec (by omega)]
theorem in20.snoc {P : List Int} (h : in20 P) {d : Nat} (hd : d ≤ 20) : in20 (P ++ [(d : Int)]) := by
  intro x hx
  rcases List.mem_append.1 hx with hx | hx
  · exact h x hx
  · rw [List.mem_singleton.1 hx]; omega
section
variable (k : Nat) (hk : 100 ≤ k) {S : List Int} (F : Few S)
include hk F
theorem look_is : ∀ (r fuel : Nat) (P : List Int) (left : Nat) (b : Bst), P.length + r = S.length → r < fuel → in20 P → left ≤ 40 →
    impl_LikeliestDraw_1_r k fuel P (left : Int) (S, ()) (b.2, ()) (b.1, ()) ((), ()) = some ((), ((S, ()), ((bst (wy S) b ((enum ((nats' S).drop P.length) left).map (P ++ ·))).2, ()), ((bst (wy S) b ((enum ((nats' S).drop P.length) left).map (P ++ ·))).1, ()), ((), ()), ())) := by
  have h8 := F.l8
  have hT := (few_sum F).2
  have hN := nats_len S
  intro r
  induction r with
  | zero =>
    intro fuel P left b hP hf hin hl
    obtain ⟨fuel, rfl⟩ : ∃ n, fuel = n + 1 := ⟨fuel - 1, by omega⟩
    show impl_LikeliestDraw_1_s k _ P (left : Int) (S, ()) (b.2, ()) (b.1, ()) ((), ()) = _
    unfold impl_LikeliestDraw_1_s
    have e0 : ((P.length : Int) == (S.length : Int)) = true := by simp; omega
    rw [e0]
    simp only [cond_true]
    rw [waysOf_is k hk F.inS hin (by omega) h8 hT]
    simp only [Option.bind_some]
    rw [List.drop_of_length_le (by omega), nat_beq0]
    simp only [enum]
    by_cases h0 : left = 0
    · rw [decide_eq_true h0, if_pos h0]
      simp only [cond_true, met_inl, List.map_cons, List.map_nil, List.append_nil]
      rw [clone_is k P (by omega)]
      simp only [bst, List.foldl_cons, List.foldl_nil, stepB]
      by_cases h1 : (wy S P : Int) > b.2
      · rw [decide_eq_true h1, if_pos h1]; rfl
      · rw [decide_eq_false h1, if_neg h1]; rfl
    · rw [decide_eq_false h0, if_neg h0]; rfl
  | succ r ih =>
    intro fuel P left b hP hf hin hl
    obtain ⟨fuel, rfl⟩ : ∃ n, fuel = n + 1 := ⟨fuel - 1, by omega⟩
    show impl_LikeliestDraw_1_s k (impl_LikeliestDraw_1_r k fuel) P (left : Int) (S, ()) (b.2, ()) (b.1, ()) ((), ()) = _
    unfold impl_LikeliestDraw_1_s
    have e0 : ((P.length : Int) == (S.length : Int)) = false := by simp; omega
    have e1 : iw ((P.length : Int) + 1) = ((P.length + 1 : Nat) : Int) := iw_nat (by omega)
    rw [e0]
    simp only [cond_false]
    rw [e1, chk_dec (by omega), chk_dec (by omega), Int.toNat_natCast, total_is k _ (by rw [List.length_drop]; omega) (by rw [List.length_drop]; omega), rest_is F.inS h8]
    simp only [Option.bind_some]
    obtain ⟨i, hi⟩ : ∃ i, P.length = i := ⟨_, rfl⟩
    obtain ⟨a, ha⟩ : ∃ a, at' S i = a := ⟨_, rfl⟩
    have hdr : (nats' S).drop i = a :: (nats' S).drop (i + 1) := by
      rw [← ha, at_get i (by omega)]; exact List.drop_eq_getElem_cons (by omega)
    have hrd : rd S (i : Int) = (a : Int) := by rw [← ha]; exact at_is F.inS i
    have h20 : a ≤ 20 := by rw [← ha]; exact at_le F.inS i
    have htd := total_drop (nats' S) (i + 1)
    rw [hi, hdr, enum_cons]
    obtain ⟨R, hR⟩ : ∃ R, (nats' S).drop (i + 1) = R := ⟨_, rfl⟩
    rw [hR] at htd ⊢
    show met (impl_LikeliestDraw_1_l3 k _ P (left : Int) (S, ()) (b.2, ()) (b.1, ()) ((), ()) (max2 0 (iw ((left : Int) - (total R : Int))))) _ = some ((), ((S, ()), ((bst (wy S) b (sg R left P (a + 1))).2, ()), ((bst (wy S) b (sg R left P (a + 1))).1, ()), ((), ()), ()))
    obtain ⟨lo, hlo⟩ : ∃ lo, left - total R = lo := ⟨_, rfl⟩
    have elo : max2 0 (iw ((left : Int) - (total R : Int))) = ((lo + 0 : Nat) : Int) := by
      rw [iw_id (by omega) (by omega)]; unfold max2; split <;> omega
    have s0 : sg R left P (lo + 0) = [] := by
      rw [sg_more (a := 0) (Nat.zero_le _) (fun d _ h => item_far (by omega))]; rfl
    have hloop : impl_LikeliestDraw_1_l3 k (impl_LikeliestDraw_1_r k fuel) P (left : Int) (S, ()) (b.2, ()) (b.1, ()) ((), ()) ((lo + 0 : Nat) : Int) = some (.inl ((S, ()), ((bst (wy S) b (sg R left P (lo + (min a left + 1 - lo)))).2, ()), ((bst (wy S) b (sg R left P (lo + (min a left + 1 - lo)))).1, ()), ((), ()), ())) := by
      unfold impl_LikeliestDraw_1_l3
      rw [show b.2 = (bst (wy S) b (sg R left P (lo + 0))).2 by rw [s0]; rfl, show b.1 = (bst (wy S) b (sg R left P (lo + 0))).1 by rw [s0]; rfl]
      refine iter_to (fun j => ((S, ()), ((bst (wy S) b (sg R left P (lo + j))).2, ()), ((bst (wy S) b (sg R left P (lo + j))).1, ()), ((), ()), ((lo + j : Nat) : Int), ())) (min a left + 1 - lo) _ (fun j hj rec => ?_) (fun rec => ?_) k (by omega)
      · have hmn : min2 (a : Int) (left : Int) = ((min a left : Nat) : Int) := by unfold min2; split <;> omega
        have hrec := ih fuel (P ++ [((lo + j : Nat) : Int)]) (left - (lo + j)) (bst (wy S) b (sg R left P (lo + j))) (by simp; omega) (by omega) (hin.snoc (by omega)) (by omega)
        rw [show (P ++ [((lo + j : Nat) : Int)]).length = i + 1 by simp [hi], hR, ← item_pre P (by omega), ← bst_app, ← sg_succ] at hrec
        simp only [impl_LikeliestDraw_1_l3_b]
        rw [hi, hrd, hmn, cond_dec, if_pos (by omega), ixk_in (by omega) (by omega), clone_is k P (by omega)]
        simp only [Option.bind_some, andX_same]
        rw [chk_dec (by simp; omega), iw_id (x := (left : Int) - ((lo + j : Nat) : Int)) (by omega) (by omega), show (left : Int) - ((lo + j : Nat) : Int) = ((left - (lo + j) : Nat) : Int) by omega, hrec]
        simp only [Option.bind_some, met_inl]
        rw [iw_nat (by omega)]
        rfl
      · have hmn : min2 (a : Int) (left : Int) = ((min a left : Nat) : Int) := by unfold min2; split <;> omega
        simp only [impl_LikeliestDraw_1_l3_b]
        rw [hi, hrd, hmn, cond_dec, if_neg (by omega), ixk_in (by omega) (by omega)]
    rw [elo, hloop]
    simp only [met_inl]
    have hend : sg R left P (lo + (min a left + 1 - lo)) = sg R left P (a + 1) := by
      rcases Nat.le_total (lo + (min a left + 1 - lo)) (a + 1) with h1 | h1
      · exact (sg_more h1 fun d h2 h3 => item_far (by omega)).symm
      · exact sg_more h1 fun d h2 h3 => item_far (by omega)
    rw [hend]
theorem best_is : ∀ (r fuel : Nat) (P : List Int) (left : Nat), P.length + r = S.length → r < fuel → in20 P → left ≤ 40 → (∀ i, i < P.length → at' P i ≤ at' S i) → (r = 0 → left = 0) →
    spec_chBest_r k fuel S P (left : Int) = some (((bst (wy S) ([], 0) ((enum ((nats' S).drop P.length) left).map (P ++ ·))).1, (bst (wy S) ([], 0) ((enum ((nats' S).drop P.length) left).map (P ++ ·))).2, ()), ()) := by
  have h8 := F.l8
  have hT := (few_sum F).2
  have hN := nats_len S
  intro r
  induction r with
  | zero =>
    intro fuel P left hP hf hin hl hle h0
    obtain ⟨fuel, rfl⟩ : ∃ n, fuel = n + 1 := ⟨fuel - 1, by omega⟩
    show spec_chBest_s k _ S P (left : Int) = _
    unfold spec_chBest_s
    have e0 : ((P.length : Int) == (S.length : Int)) = true := by simp; omega
    have hw : 0 < wy S P := prod_pos _ fun i hi => hle i (by omega)
    rw [e0]
    simp only [cond_true]
    rw [chWays_is k hk F.inS hin (by omega) h8 hT, own_is k P (by omega)]
    simp only [Option.bind_some]
    rw [List.drop_of_length_le (by omega), h0 rfl]
    simp only [enum, if_true, List.map_cons, List.map_nil, List.append_nil, bst, List.foldl_cons, List.foldl_nil, stepB]
    rw [if_pos (by omega)]
  | succ r ih =>
    intro fuel P left hP hf hin hl hle _
    obtain ⟨fuel, rfl⟩ : ∃ n, fuel = n + 1 := ⟨fuel - 1, by omega⟩
    show spec_chBest_s k (spec_chBest_r k fuel) S P (left : Int) = _
    unfold spec_chBest_s
    have e0 : ((P.length : Int) == (S.length : Int)) = false := by simp; omega
    rw [e0]
    simp only [cond_false]
    obtain ⟨i, hi⟩ : ∃ i, P.length = i := ⟨_, rfl⟩
    have e1 : iw ((i : Int) + 1) = ((i + 1 : Nat) : Int) := iw_nat (by omega)
    obtain ⟨a, ha⟩ : ∃ a, at' S i = a := ⟨_, rfl⟩
    have hdr : (nats' S).drop i = a :: (nats' S).drop (i + 1) := by
      rw [← ha, at_get i (by omega)]; exact List.drop_eq_getElem_cons (by omega)
    have hrd : rd S (i : Int) = (a : Int) := by rw [← ha]; exact at_is F.inS i
    have h20 : a ≤ 20 := by rw [← ha]; exact at_le F.inS i
    have htd := total_drop (nats' S) (i + 1)
    have hrt : r = 0 → total ((nats' S).drop (i + 1)) = 0 := fun h => by rw [List.drop_of_length_le (by omega)]; rfl
    rw [hi, hdr, enum_cons]
    obtain ⟨R, hR⟩ : ∃ R, (nats' S).drop (i + 1) = R := ⟨_, rfl⟩
    rw [hR] at htd hrt ⊢
    show met (spec_chBest_l1 k _ S P (left : Int) [] 0 0) _ = some (((bst (wy S) ([], 0) (sg R left P (a + 1))).1, (bst (wy S) ([], 0) (sg R left P (a + 1))).2, ()), ())
    have hpos : ∀ L, 0 ≤ (bst (wy S) ([], 0) L).2 := by
      intro L
      have : ∀ (L : List (List Int)) (b : Bst), 0 ≤ b.2 → 0 ≤ (bst (wy S) b L).2 := by
        intro L
        induction L with
        | nil => intro b h; exact h
        | cons x L ih =>
          intro b h
          refine ih _ ?_
          unfold stepB
          split
          · exact Int.natCast_nonneg _
          · exact h
      exact this L _ (Int.le_refl 0)
    have hloop : spec_chBest_l1 k (spec_chBest_r k fuel) S P (left : Int) [] 0 0 = some (.inl ((bst (wy S) ([], 0) (sg R left P (min a left + 1))).1, (bst (wy S) ([], 0) (sg R left P (min a left + 1))).2, ())) := by
      unfold spec_chBest_l1
      refine iter_to (fun j => ((bst (wy S) ([], 0) (sg R left P j)).1, (bst (wy S) ([], 0) (sg R left P j)).2, (j : Int), ())) (min a left + 1) _ (fun j hj rec => ?_) (fun rec => ?_) k (by omega)
      · simp only [spec_chBest_l1_b]
        rw [hi, hrd, ixk_in (by omega) (by omega), cond_dec, if_pos (by omega), decide_eq_true (show (j : Int) ≤ (left : Int) by omega)]
        simp only [met_inl, cond_true]
        rw [e1, chk_dec (by omega), chk_dec (by omega), Int.toNat_natCast, soSum_is k _ (by rw [List.length_drop]; omega) (by rw [List.length_drop]; omega), rest_is F.inS h8, hR]
        simp only [Option.bind_some]
        rw [iw_id (x := (left : Int) - (j : Int)) (by omega) (by omega), show (left : Int) - (j : Int) = ((left - j : Nat) : Int) by omega, iw_nat (by omega)]
        by_cases hfar : total R < left - j
        · rw [cond_dec, if_pos (by omega), sg_succ, item_far (.inr hfar), List.map_nil, List.append_nil]
          rfl
        · have hrec := ih fuel (P ++ [(j : Int)]) (left - j) (by simp; omega) (by omega) (hin.snoc (by omega)) (by omega) (fun t ht => by
            simp only [List.length_append, List.length_cons, List.length_nil] at ht
            unfold at' rd
            rw [Int.toNat_natCast, List.getD_eq_getElem?_getD, List.getElem?_append]
            by_cases h1 : t < P.length
            · rw [if_pos h1]
              have := hle t h1
              unfold at' rd at this
              rwa [Int.toNat_natCast, List.getD_eq_getElem?_getD] at this
            · rw [if_neg h1, show t - P.length = 0 by omega]
              have : t = i := by omega
              subst this
              have h2 := ha
              unfold at' rd at h2
              rw [Int.toNat_natCast] at h2
              simp only [List.getElem?_cons_zero, Option.getD_some, Int.toNat_natCast, h2]
              omega) (fun h => by have := hrt h; omega)
          rw [show (P ++ [(j : Int)]).length = i + 1 by simp [hi], hR, ← item_pre P (by omega)] at hrec
          rw [cond_dec, if_neg (by omega), own_is k P (by omega)]
          simp only [Option.bind_some]
          rw [chk_dec (by simp; omega), hrec]
          simp only [Option.bind_some]
          rw [sg_succ, bst_app, bst_join (wy S) ((item R left j).map (P ++ ·)) (bst (wy S) ([], 0) (sg R left P j)) (hpos _), cond_dec]
          by_cases hgt : (bst (wy S) ([], 0) ((item R left j).map (P ++ ·))).2 > (bst (wy S) ([], 0) (sg R left P j)).2
          · rw [if_pos hgt, if_pos hgt]; rfl
          · rw [if_neg hgt, if_neg hgt]; rfl
      · simp only [spec_chBest_l1_b]
        rw [hi, hrd, ixk_in (by omega) (by omega), cond_dec]
        by_cases h1 : a ≤ left
        · rw [if_neg (by omega)]; rfl
        · rw [if_pos (by omega), decide_eq_false (by omega)]; rfl
    rw [hloop]
    simp only [met_inl]
    rw [← sg_more (a := min a left + 1) (b := a + 1) (by omega) fun d h2 h3 => item_far (by omega)]
end

theorem in20_mem {S : List Int} (h : in20 S) (i : Nat) (hi : i < S.length) : S[i] = (at' S i : Int) := by
  rw [← at_is h, rd_nat S i hi]
/-! ### What is told of all draws -/
theorem mem_enum : ∀ (N : List Nat) (left : Nat) (x : List Int), x ∈ enum N left ↔ ∃ D : List Nat, x = D.map Int.ofNat ∧ D.length = N.length ∧ total D = left ∧ ∀ i, D.getD i 0 ≤ N.getD i 0
  | [], left, x => by
    simp only [enum]
    constructor
    · intro h
      by_cases h0 : left = 0
      · rw [if_pos h0] at h
        exact ⟨[], by simpa using h, rfl, h0.symm, fun i => by simp⟩
      · rw [if_neg h0] at h; cases h
    · rintro ⟨D, rfl, h1, h2, _⟩
      have : D = [] := List.length_eq_zero_iff.1 h1
      subst this
      have h2' : left = 0 := h2.symm
      rw [if_pos h2']; simp
  | n :: N, left, x => by
    rw [enum_cons, List.mem_flatMap]
    constructor
    · rintro ⟨d, hd, hx⟩
      have hd' := List.mem_range.1 hd
      unfold item at hx
      by_cases h : d ≤ left
      · rw [if_pos h, List.mem_map] at hx
        obtain ⟨y, hy, rfl⟩ := hx
        obtain ⟨D, rfl, h1, h2, h3⟩ := (mem_enum N _ y).1 hy
        refine ⟨d :: D, rfl, by simp [h1], by simp only [total]; omega, fun i => ?_⟩
        cases i with
        | zero => simp only [List.getD_cons_zero]; omega
        | succ i => simp only [List.getD_cons_succ]; exact h3 i
      · rw [if_neg h] at hx; cases hx
    · rintro ⟨D, rfl, h1, h2, h3⟩
      cases D with
      | nil => simp at h1
      | cons d D =>
        simp only [total] at h2
        refine ⟨d, List.mem_range.2 (by have := h3 0; simp only [List.getD_cons_zero] at this; omega), ?_⟩
        unfold item
        rw [if_pos (by omega), List.mem_map]
        exact ⟨D.map Int.ofNat, (mem_enum N _ _).2 ⟨D, rfl, by simpa using h1, by omega, fun i => by have := h3 (i + 1); simpa only [List.getD_cons_succ] using this⟩, rfl⟩
theorem is_mem {S D : List Int} (I : Is S D) : D ∈ enum (nats' S) (total (nats' D)) := by
  refine (mem_enum _ _ _).2 ⟨nats' D, ?_, by rw [nats_len, nats_len]; exact I.len, rfl, fun i => ?_⟩
  · unfold nats'
    rw [List.map_map]
    refine (List.map_id D).symm.trans (List.map_congr_left fun x hx => ?_)
    have := I.inD x hx
    show x = ((x.toNat : Nat) : Int)
    omega
  · have h : ∀ (T : List Int), (nats' T).getD i 0 = at' T i := fun T => by
      unfold nats' at' rd
      rw [Int.toNat_natCast, List.getD_eq_getElem?_getD, List.getD_eq_getElem?_getD, List.getElem?_map]
      cases T[i]? <;> rfl
    rw [h, h]; exact I.le i
theorem mem_is {S D : List Int} {m : Nat} (hS : in20 S) (h : D ∈ enum (nats' S) m) : Is S D ∧ total (nats' D) = m := by
  obtain ⟨N, rfl, h1, h2, h3⟩ := (mem_enum _ _ _).1 h
  have e : nats' (N.map Int.ofNat) = N := by
    unfold nats'
    rw [List.map_map]
    exact (List.map_congr_left fun x _ => rfl).trans (List.map_id N)
  have hg : ∀ (T : List Int) (i : Nat), (nats' T).getD i 0 = at' T i := fun T i => by
    unfold nats' at' rd
    rw [Int.toNat_natCast, List.getD_eq_getElem?_getD, List.getD_eq_getElem?_getD, List.getElem?_map]
    cases T[i]? <;> rfl
  have hle : ∀ i, at' (N.map Int.ofNat) i ≤ at' S i := fun i => by rw [← hg, ← hg, e]; exact h3 i
  refine ⟨⟨by rw [List.length_map, h1, nats_len], fun x hx => ?_, hle⟩, by rw [e]; exact h2⟩
  obtain ⟨i, hi, rfl⟩ := List.getElem_of_mem hx
  have h4 := hle i
  have h5 := at_le hS i
  rw [at_get i hi] at h4
  simp only [nats', List.getElem_map] at h4 ⊢
  have : (Int.ofNat (N[i]'(by simpa using hi))).toNat = N[i]'(by simpa using hi) := rfl
  rw [this] at h4
  show 0 ≤ ((N[i]'(by simpa using hi) : Nat) : Int) ∧ ((N[i]'(by simpa using hi) : Nat) : Int) ≤ 20
  omega
/-! ### In order -/
def lx : List Int → List Int → Prop
  | x :: a, y :: b => x < y ∨ (x = y ∧ lx a b)
  | _, _ => False
theorem enum_sorted : ∀ (N : List Nat) (left : Nat), (enum N left).Pairwise lx
  | [], left => by simp only [enum]; split <;> simp
  | n :: N, left => by
    rw [enum_cons, List.pairwise_flatMap]
    refine ⟨fun d _ => ?_, ?_⟩
    · unfold item
      split
      · rw [List.pairwise_map]
        exact (enum_sorted N _).imp fun h => .inr ⟨rfl, h⟩
      · exact List.Pairwise.nil
    · refine List.pairwise_lt_range.imp fun {d e} h x hx y hy => ?_
      unfold item at hx hy
      by_cases h1 : d ≤ left
      · by_cases h2 : e ≤ left
        · rw [if_pos h1, List.mem_map] at hx
          rw [if_pos h2, List.mem_map] at hy
          obtain ⟨u, _, rfl⟩ := hx
          obtain ⟨v, _, rfl⟩ := hy
          exact .inl (by omega)
        · rw [if_neg h2] at hy; cases hy
      · rw [if_neg h1] at hx; cases hx
theorem bst_best (w : List Int → Nat) : ∀ (L : List (List Int)), L.Pairwise lx → (∀ x ∈ L, 0 < w x) → L ≠ [] →
    (bst w ([], 0) L).1 ∈ L ∧ (bst w ([], 0) L).2 = (w (bst w ([], 0) L).1 : Int) ∧ ∀ x ∈ L, w x < w (bst w ([], 0) L).1 ∨ (w x = w (bst w ([], 0) L).1 ∧ (x = (bst w ([], 0) L).1 ∨ lx (bst w ([], 0) L).1 x))
  | [], _, _, h => absurd rfl h
  | x :: L, hp, hw, _ => by
    have hx := hw x (by simp)
    obtain ⟨hp1, hp2⟩ := List.pairwise_cons.1 hp
    have e : bst w ([], 0) (x :: L) = bst w (x, (w x : Int)) L := by
      show bst w (stepB w ([], 0) x) L = _
      unfold stepB
      rw [if_pos (show (w x : Int) > (([], 0) : Bst).2 from by show (w x : Int) > 0; omega)]
    rw [e, bst_join w L (x, (w x : Int)) (Int.natCast_nonneg _)]
    by_cases hL : L = []
    · subst hL
      rw [if_neg (show ¬ (bst w ([], 0) []).2 > ((x, (w x : Int)) : Bst).2 from by show ¬ (0 : Int) > (w x : Int); omega)]
      exact ⟨by simp, rfl, fun y hy => .inr (by rw [List.mem_singleton.1 hy]; exact ⟨rfl, .inl rfl⟩)⟩
    · obtain ⟨h1, h2, h3⟩ := bst_best w L hp2 (fun y hy => hw y (by simp [hy])) hL
      generalize bst w ([], 0) L = c at *
      by_cases hc : c.2 > (w x : Int)
      · rw [if_pos (show c.2 > ((x, (w x : Int)) : Bst).2 from hc)]
        refine ⟨List.mem_cons_of_mem _ h1, h2, fun y hy => ?_⟩
        rcases List.mem_cons.1 hy with rfl | hy
        · left; omega
        · exact h3 y hy
      · rw [if_neg (show ¬ c.2 > ((x, (w x : Int)) : Bst).2 from hc)]
        refine ⟨by simp, rfl, fun y hy => ?_⟩
        rcases List.mem_cons.1 hy with rfl | hy
        · exact .inr ⟨rfl, .inl rfl⟩
        · rcases h3 y hy with h4 | ⟨h4, _⟩
          · left; show w y < w x; omega
          · by_cases h5 : w y = w x
            · exact .inr ⟨h5, .inr (hp1 y hy)⟩
            · left; show w y < w x; omega
/-! ### zBefore, zSum, zSame -/
def zb : List Int → List Int → Bool
  | x :: a, y :: b => if x = y then zb a b else decide (x < y)
  | [], _ => true
  | _ :: _, [] => false
theorem zb_self : ∀ a, zb a a = true
  | [] => rfl
  | x :: a => by simp only [zb, if_true]; exact zb_self a
theorem zb_lx : ∀ a b, lx a b → zb a b = true
  | x :: a, y :: b, h => by
    simp only [zb]
    rcases h with h | ⟨h, h2⟩
    · rw [if_neg (by omega)]; exact decide_eq_true h
    · rw [if_pos h]; exact zb_lx a b h2
  | [], _, h => by cases h
  | _ :: _, [], h => by cases h
theorem zb_end : ∀ (a b : List Int), a = [] ∨ b = [] → zb a b = decide (a.length ≤ b.length)
  | [], b, _ => by simp [zb]
  | x :: a, [], _ => by simp [zb]
  | x :: a, y :: b, h => by rcases h with h | h <;> cases h
theorem zBefore_is (k : Nat) (hk : 100 ≤ k) (a b : List Int) (ha : a.length ≤ 20) (hb : b.length ≤ 20) : laws_zBefore_f k a b = some ((zb a b, ()), ()) := by
  unfold laws_zBefore_f laws_zBefore_l1
  refine iter_met (fun j => ((j : Int), ())) (fun j => some ((zb (a.drop j) (b.drop j), ()), ())) (min a.length b.length) (fun j hj => ?_) k 0 (Nat.zero_le _) (by omega)
  by_cases h : j < min a.length b.length
  · have da : a.drop j = a[j]'(by omega) :: a.drop (j + 1) := List.drop_eq_getElem_cons (by omega)
    have db : b.drop j = b[j]'(by omega) :: b.drop (j + 1) := List.drop_eq_getElem_cons (by omega)
    have hb' : ∀ rec : (Int × Unit) → Option (Unit ⊕ ((Bool × Unit) × Unit)), laws_zBefore_l1_b k a b (fun x5 => rec (x5, ())) (j : Int) = cond (a[j]'(by omega) != b[j]'(by omega)) (some (.inr (((decide (a[j]'(by omega) < b[j]'(by omega))), ()), ()))) (rec (((j + 1 : Nat) : Int), ())) := fun rec => by
      simp only [laws_zBefore_l1_b]
      rw [cond_dec, if_pos (by omega), decide_eq_true (by omega)]
      simp only [met_inl, cond_true]
      rw [ixk_in (by omega) (by omega), ixk_in (by omega) (by omega), ixk_in (by omega) (by omega), ixk_in (by omega) (by omega), rd_nat a j (by omega), rd_nat b j (by omega), iw_nat (by omega)]
    by_cases he : a[j]'(by omega) = b[j]'(by omega)
    · refine .inr ⟨h, ?_, fun rec => ?_⟩
      · rw [da, db]; simp only [zb]; rw [if_pos he]
      · show laws_zBefore_l1_b k a b (fun x5 => rec (x5, ())) (j : Int) = _
        rw [hb', he]; simp
    · refine .inl fun rec => ?_
      show met (laws_zBefore_l1_b k a b (fun x5 => rec (x5, ())) (j : Int)) _ = _
      have : (a[j]'(by omega) != b[j]'(by omega)) = true := by simp [he]
      rw [hb', this, da, db]
      simp only [zb]
      rw [if_neg he]; rfl
  · refine .inl fun rec => ?_
    have hm : j = min a.length b.length := by omega
    show met (laws_zBefore_l1_b k a b (fun x5 => rec (x5, ())) (j : Int)) _ = _
    have hb' : laws_zBefore_l1_b k a b (fun x5 => rec (x5, ())) (j : Int) = some (.inl ()) := by
      simp only [laws_zBefore_l1_b]
      rw [cond_dec]
      by_cases h1 : j < a.length
      · rw [if_pos (by omega), decide_eq_false (by omega)]; rfl
      · rw [if_neg (by omega)]; rfl
    rw [hb', zb_end _ _ (by
      rcases Nat.le_total a.length b.length with h1 | h1
      · exact .inl (List.drop_of_length_le (by omega))
      · exact .inr (List.drop_of_length_le (by omega)))]
    simp only [met_inl, List.length_drop]
    have e : decide ((a.length : Int) ≤ (b.length : Int)) = decide (a.length - j ≤ b.length - j) := decide_eq_decide.2 (by omega)
    rw [e]
theorem zSum_is (k : Nat) (l : List Int) (hk : l.length < k) (hl : l.length ≤ 1000) : laws_zSum_f k l = some ((sumW l, ()), ()) := total_is k l hk hl
theorem zSame_is (k : Nat) (hk : 100 ≤ k) (a : List Int) (ha : a.length ≤ 20) : laws_zSame_f k a a = some ((true, ()), ()) := by
  unfold laws_zSame_f
  have e0 : ((a.length : Int) != (a.length : Int)) = false := by simp
  rw [e0]
  have h : laws_zSame_l1 k a a 0 = some (.inl ()) := by
    unfold laws_zSame_l1
    refine iter_to (fun j => ((j : Int), ())) a.length _ (fun j hj rec => ?_) (fun rec => ?_) k (by omega)
    · simp only [laws_zSame_l1_b]
      rw [cond_dec, if_pos (by omega), ixk_in (by omega) (by omega), ixk_in (by omega) (by omega), iw_nat (by omega)]
      simp
    · simp only [laws_zSame_l1_b]
      rw [cond_dec, if_neg (by omega)]
  rw [cond_false, h]; rfl
/-! ### The likeliest draw -/
def bestD (S : List Int) (m : Nat) : List Int := (bst (wy S) ([], 0) (enum (nats' S) m)).1
def likB (S : List Int) (m : Int) : Bool := num S m && decide (V ones (nats' S) m ≤ 5000)
def likVal (S : List Int) (m : Int) : (List Int × Bool × Unit) × Unit := if likB S m = true then ((bestD S m.toNat, true, ()), ()) else (([], false, ()), ())
theorem implLik_is (k : Nat) (hk : 1000000000000000 ≤ k) (S : List Int) (h8 : S.length ≤ 8) (m : Int) : impl_LikeliestDraw_f k S m = some (likVal S m) := by
  unfold impl_LikeliestDraw_f likVal likB
  rw [isNumber_is k (by omega) S h8 m]
  simp only [Option.bind_some]
  cases hn : num S m with
  | false => rfl
  | true =>
    obtain ⟨n, rfl, M⟩ := num_is hn
    simp only [Bool.not_true, cond_false, Bool.true_and]
    rw [implCount_is k (by omega) S h8]
    unfold countVal
    rw [few_good (num_few hn), decide_eq_true (show (0 : Int) ≤ (n : Int) by omega)]
    simp only [Bool.and_self, if_true, Option.bind_some, Bool.not_true, cond_false, met_inl]
    by_cases h : V ones (nats' S) (n : Int) ≤ 5000
    · rw [decide_eq_true h, decide_eq_false (show ¬ ((V ones (nats' S) (n : Int) : Nat) : Int) > 5000 by omega), if_pos rfl]
      simp only [cond_false]
      have hl := look_is k (by omega) M.F S.length k [] n ([], -1) (by simp) (by omega) (fun x hx => by cases hx) (by have := M.le; have := M.T; omega)
      unfold impl_LikeliestDraw_1_f
      rw [hl]
      simp only [Option.bind_some, List.length_nil, List.drop_zero, List.nil_append, List.map_id']
      unfold bestD
      rw [bst_start, Int.toNat_natCast]
      intro x hx
      have I := (mem_is M.F.inS hx).1
      exact prod_pos _ fun i _ => I.le i
    · rw [decide_eq_false h, decide_eq_true (show ((V ones (nats' S) (n : Int) : Nat) : Int) > 5000 by omega)]; rfl
theorem specLik_is (k : Nat) (hk : 1000000000000000 ≤ k) (S : List Int) (h8 : S.length ≤ 8) (m : Int) : spec_LikeliestDraw_f k S m = some (likVal S m) := by
  unfold spec_LikeliestDraw_f likVal likB
  rw [chAsked_is k (by omega) S h8 m]
  simp only [Option.bind_some]
  cases hn : num S m with
  | false => rfl
  | true =>
    obtain ⟨n, rfl, M⟩ := num_is hn
    simp only [Bool.not_true, cond_false, Bool.true_and]
    rw [soDraws_is k (by omega) M.F.toGood n]
    simp only [Option.bind_some, met_inl]
    by_cases h : V ones (nats' S) (n : Int) ≤ 5000
    · rw [decide_eq_true h, decide_eq_false (show ¬ ((V ones (nats' S) (n : Int) : Nat) : Int) > 5000 by omega), if_pos rfl]
      simp only [cond_false]
      have hl := best_is k (by omega) M.F S.length k [] n (by simp) (by omega) (fun x hx => by cases hx) (by have := M.le; have := M.T; omega) (fun i hi => by simp at hi) (fun h => by have := M.F.l0; omega)
      unfold spec_chBest_f
      rw [hl]
      simp only [Option.bind_some, List.length_nil, List.drop_zero, List.nil_append, List.map_id']
      rfl
    · rw [decide_eq_false h, decide_eq_true (show ((V ones (nats' S) (n : Int) : Nat) : Int) > 5000 by omega)]; rfl
/-- What the likeliest draw is. -/
theorem bestD_is {S D : List Int} (F : Few S) (I : Is S D) : Is S (bestD S (total (nats' D))) ∧ total (nats' (bestD S (total (nats' D)))) = total (nats' D) ∧
    (wy S D < wy S (bestD S (total (nats' D))) ∨ (wy S D = wy S (bestD S (total (nats' D))) ∧ zb (bestD S (total (nats' D))) D = true)) := by
  have hm := is_mem I
  obtain ⟨h1, _, h3⟩ := bst_best (wy S) (enum (nats' S) (total (nats' D))) (enum_sorted _ _) (fun x hx => prod_pos _ fun i _ => (mem_is F.inS hx).1.le i) (fun e => by rw [e] at hm; cases hm)
  obtain ⟨h4, h5⟩ := mem_is F.inS h1
  refine ⟨h4, h5, ?_⟩
  rcases h3 D hm with h | ⟨h, h6⟩
  · exact .inl h
  · refine .inr ⟨h, ?_⟩
    rcases h6 with h6 | h6
    · show zb (bst (wy S) ([], 0) (enum (nats' S) (total (nats' D)))).1 D = true
      rw [← h6]; exact zb_self D
    · exact zb_lx _ _ h6

noncomputable def segNext (k : Nat) (y109 : (List Int × List Int × Unit) × Unit) (y115 : (Int × Int × Bool × Unit) × Unit) (j1 : List Int × Bool × Unit) : Option (Unit ⊕ ((Bool × Unit) × Unit)) :=
  (cond y115.1.2.2.1 (Option.bind (laws_zSum_f k y109.1.1) (fun y177 => (Option.bind (laws_zSum_f k j1.1) (fun y179 => (met (laws_FnChancesNext_l2 k y109 j1 0 0) (fun j5 => (met (Option.bind (laws_zLow_f k y115.1.1 y115.1.2.1) (fun y202 => (cond (!y202.1.1) (some (.inl (true, ()))) (some (.inl (((iw (y115.1.1 * (iw (y177.1.1 - y179.1.1)))) != (iw (j5.1 * y115.1.2.1))), ())))))) (fun j6 => (cond j6.1 (some (.inr ((false, ()), ()))) (some (.inl ()))))))))))) (some (.inl ())))
noncomputable def segDraw (k : Nat) (y109 : (List Int × List Int × Unit) × Unit) (y129 : (Int × Int × Bool × Unit) × Unit) (j1 : List Int × Bool × Unit) : Option (Unit ⊕ ((Bool × Unit) × Unit)) :=
  (cond y129.1.2.2.1 (Option.bind (laws_zSum_f k j1.1) (fun y215 => (Option.bind (impl_WaysToDraw_f k y109.1.1 y215.1.1) (fun y219 => (Option.bind (impl_LikeliestDraw_f k y109.1.1 y215.1.1) (fun y225 => (met (Option.bind (laws_zLow_f k y129.1.1 y129.1.2.1) (fun y230 => (cond (!y230.1.1) (some (.inl (true, ()))) (cond (!y219.1.2.1) (some (.inl (true, ()))) (chk (!(y129.1.2.1 == 0)) (cond ((Int.tmod y219.1.1 y129.1.2.1) != 0) (some (.inl (true, ()))) (some (.inl ((decide (y129.1.1 < 1)), ()))))))))) (fun j8 => (cond j8.1 (some (.inr ((false, ()), ()))) (met (cond y225.1.2.1 (Option.bind (impl_ChanceOfDraw_f k y109.1.1 y225.1.1) (fun y250 => (met (Option.bind (laws_zSum_f k y225.1.1) (fun y255 => (cond (y255.1.1 != y215.1.1) (some (.inl (true, ()))) (cond (!y250.1.2.2.1) (some (.inl (true, ()))) (chk (!(y250.1.2.1 == 0)) (cond ((Int.tmod y219.1.1 y250.1.2.1) != 0) (some (.inl (true, ()))) (chk (!(y250.1.2.1 == 0)) (chk (!(y129.1.2.1 == 0)) (cond (decide ((iw (y250.1.1 * (iw (Int.tdiv y219.1.1 y250.1.2.1)))) < (iw (y129.1.1 * (iw (Int.tdiv y219.1.1 y129.1.2.1)))))) (some (.inl (true, ()))) (chk (!(y250.1.2.1 == 0)) (chk (!(y129.1.2.1 == 0)) (cond ((iw (y250.1.1 * (iw (Int.tdiv y219.1.1 y250.1.2.1)))) == (iw (y129.1.1 * (iw (Int.tdiv y219.1.1 y129.1.2.1))))) (Option.bind (laws_zBefore_f k y225.1.1 j1.1) (fun y296 => (some (.inl ((!y296.1.1), ()))))) (some (.inl (false, ()))))))))))))))) (fun j9 => (cond j9.1 (some (.inr (.inr ((false, ()), ())))) (some (.inl ()))))))) (some (.inl ()))) (fun j10 => (some (.inl ()))))))))))))) (some (.inl ())))
noncomputable def segMean (k : Nat) (y304 : (Int × Int × Bool × Unit) × Unit) (j12 : List Int × List Int × List Int × List Int × List Int × Bool × Unit) : Option (Unit ⊕ ((Bool × Unit) × Unit)) :=
  (cond y304.1.2.2.1 (met (Option.bind (laws_zLow_f k y304.1.1 y304.1.2.1) (fun y541 => (cond (!y541.1.1) (some (.inl (true, ()))) (some (.inl ((decide (y304.1.1 < (iw (2 * y304.1.2.1)))), ())))))) (fun j13 => (cond j13.1 (some (.inr ((false, ()), ()))) (Option.bind (laws_zSum_f k j12.1) (fun y550 => (met (cond (decide (y550.1.1 ≤ 8)) (met (laws_FnChancesNext_l14 k y550 1 2) (fun j15 => (met (laws_FnChancesNext_l16 k j12 y550 j15 0 0 1) (fun j18 => (met (cond (j18.1 != (iw (j15.1 * j15.1))) (some (.inl (true, ()))) (chk (!(y304.1.2.1 == 0)) (cond ((Int.tmod (iw (j15.1 * j15.1)) y304.1.2.1) != 0) (some (.inl (true, ()))) (chk (!(y304.1.2.1 == 0)) (some (.inl (((iw (y304.1.1 * (iw (Int.tdiv (iw (j15.1 * j15.1)) y304.1.2.1)))) != j18.2.1), ()))))))) (fun j19 => (cond j19.1 (some (.inr (.inr ((false, ()), ())))) (some (.inl ()))))))))) (some (.inl ()))) (fun j20 => (some (.inl ()))))))))) (some (.inl ())))
noncomputable def segFirst (k : Nat) (y316 : (List Int × Int × Unit) × Unit) (y322 : (Int × Int × Bool × Unit) × Unit) : Option ((Bool × Unit) ⊕ ((Bool × Unit) × Unit)) :=
  (cond y322.1.2.2.1 (Option.bind (laws_zLow_f k y322.1.1 y322.1.2.1) (fun y622 => (cond (!y622.1.1) (some (.inl (true, ()))) (cond (y316.1.2.1 == 1) (some (.inl ((y322.1.1 != 0), ()))) (some (.inl (false, ()))))))) (some (.inl (false, ()))))
noncomputable def segCol (k : Nat) (y335 : (List Int × Int × Int × Int × Unit) × Unit) (y345 : (Int × Int × Bool × Unit) × Unit) (y362 : (Int × Int × Bool × Unit) × Unit) (j12 : List Int × List Int × List Int × List Int × List Int × Bool × Unit) : Option (Unit ⊕ ((Bool × Unit) × Unit)) :=
  (cond y345.1.2.2.1 (met (Option.bind (laws_zLow_f k y345.1.1 y345.1.2.1) (fun y636 => (cond (!y636.1.1) (some (.inl (true, ()))) (cond (y335.1.2.2.2.1 == 0) (cond (y345.1.1 != 1) (some (.inl (true, ()))) (cond (y345.1.2.1 != 1) (some (.inl (true, ()))) (ixk y335.1.2.1 (List.length j12.2.1) (Option.bind (laws_zSum_f k j12.2.1) (fun y653 => (some (.inl (((iw (y362.1.1 * y653.1.1)) != (iw ((iw (y335.1.2.2.1 * (rd j12.2.1 y335.1.2.1))) * y362.1.2.1))), ())))))))) (ixk y335.1.2.1 (List.length j12.2.1) (Option.bind (laws_zSum_f k j12.2.1) (fun y653_1 => (some (.inl (((iw (y362.1.1 * y653_1.1.1)) != (iw ((iw (y335.1.2.2.1 * (rd j12.2.1 y335.1.2.1))) * y362.1.2.1))), ())))))))))) (fun j23 => (cond j23.1 (some (.inr ((false, ()), ()))) (some (.inl ()))))) (some (.inl ())))
noncomputable def segCols (k : Nat) (y376 : (List Int × Int × Int × Unit) × Unit) (y384 : (Int × Int × Bool × Unit) × Unit) (j12 : List Int × List Int × List Int × List Int × List Int × Bool × Unit) : Option (Unit ⊕ ((Bool × Unit) × Unit)) :=
  (cond y384.1.2.2.1 (Option.bind (impl_WaysToDraw_f k j12.2.2.1 y376.1.2.1) (fun y669 => (met (laws_FnChancesNext_l25 k y376 j12 y669 0 0) (fun j27 => (met (cond (!y669.1.2.1) (some (.inl (true, ()))) (some (.inl ((j27.1 != y669.1.1), ())))) (fun j28 => (cond j28.1 (some (.inr ((false, ()), ()))) (some (.inl ()))))))))) (some (.inl ())))
noncomputable def segTog (k : Nat) (y421 : (Int × Int × Bool × Unit) × Unit) (j12 : List Int × List Int × List Int × List Int × List Int × Bool × Unit) : Option (((Bool × Unit) × Unit)) :=
  (cond y421.1.2.2.1 (Option.bind (impl_ChanceTogether_f k j12.2.2.2.2.1 j12.2.2.2.1) (fun y712 => (met (Option.bind (laws_zLow_f k y421.1.1 y421.1.2.1) (fun y718 => (cond y718.1.1 (cond y712.1.2.2.1 (cond (y712.1.1 == y421.1.1) (some (.inl ((y712.1.2.1 == y421.1.2.1), ()))) (some (.inl (false, ())))) (some (.inl (false, ())))) (some (.inl (false, ())))))) (fun j30 => (some ((j30.1, ()), ())))))) (some ((true, ()), ())))
noncomputable def law2_f (k : Nat) (p1 : List Int) : Option (((Bool × Unit) × Unit)) :=
  (Option.bind (spec_DrawMeanUntilPair_f k p1) (fun y301 => (Option.bind (impl_MeanUntilPair_f k y301.1.1) (fun y304 => (Option.bind (spec_MeanUntilPair_f k y301.1.1) (fun y310 => (Option.bind (spec_DrawChanceFirstPairAt_f k p1) (fun y316 => (Option.bind (impl_ChanceFirstPairAt_f k y316.1.1 y316.1.2.1) (fun y322 => (Option.bind (spec_ChanceFirstPairAt_f k y316.1.1 y316.1.2.1) (fun y329 => (Option.bind (spec_DrawChanceOfColour_f k p1) (fun y335 => (Option.bind (impl_ChanceOfColour_f k y335.1.1 y335.1.2.1 y335.1.2.2.1 y335.1.2.2.2.1) (fun y345 => (Option.bind (spec_ChanceOfColour_f k y335.1.1 y335.1.2.1 y335.1.2.2.1 y335.1.2.2.2.1) (fun y354 => (Option.bind (impl_MeanOfColour_f k y335.1.1 y335.1.2.1 y335.1.2.2.1) (fun y362 => (Option.bind (spec_MeanOfColour_f k y335.1.1 y335.1.2.1 y335.1.2.2.1) (fun y370 => (Option.bind (spec_DrawChanceOfColours_f k p1) (fun y376 => (Option.bind (impl_ChanceOfColours_f k y376.1.1 y376.1.2.1 y376.1.2.2.1) (fun y384 => (Option.bind (spec_ChanceOfColours_f k y376.1.1 y376.1.2.1 y376.1.2.2.1) (fun y392 => (Option.bind (spec_DrawLikeliestDraw_f k p1) (fun y398 => (Option.bind (impl_LikeliestDraw_f k y398.1.1 y398.1.2.1) (fun y404 => (Option.bind (spec_LikeliestDraw_f k y398.1.1 y398.1.2.1) (fun y410 => (Option.bind (spec_DrawChanceTogether_f k p1) (fun y415 => (Option.bind (impl_ChanceTogether_f k y415.1.1 y415.1.2.1) (fun y421 => (Option.bind (spec_ChanceTogether_f k y415.1.1 y415.1.2.1) (fun y428 => (met (cond (!(y304.1.2.2.1 == y310.1.2.2.1)) (some (.inl (y301.1.1, y335.1.1, y376.1.1, y415.1.1, y415.1.2.1, true, ()))) (cond (y304.1.1 != y310.1.1) (some (.inl (y301.1.1, y335.1.1, y376.1.1, y415.1.1, y415.1.2.1, true, ()))) (cond (y304.1.2.1 != y310.1.2.1) (some (.inl (y301.1.1, y335.1.1, y376.1.1, y415.1.1, y415.1.2.1, true, ()))) (cond (!(y322.1.2.2.1 == y329.1.2.2.1)) (some (.inl (y301.1.1, y335.1.1, y376.1.1, y415.1.1, y415.1.2.1, true, ()))) (cond (y322.1.1 != y329.1.1) (some (.inl (y301.1.1, y335.1.1, y376.1.1, y415.1.1, y415.1.2.1, true, ()))) (cond (y322.1.2.1 != y329.1.2.1) (some (.inl (y301.1.1, y335.1.1, y376.1.1, y415.1.1, y415.1.2.1, true, ()))) (cond (!(y345.1.2.2.1 == y354.1.2.2.1)) (some (.inl (y301.1.1, y335.1.1, y376.1.1, y415.1.1, y415.1.2.1, true, ()))) (cond (y345.1.1 != y354.1.1) (some (.inl (y301.1.1, y335.1.1, y376.1.1, y415.1.1, y415.1.2.1, true, ()))) (cond (y345.1.2.1 != y354.1.2.1) (some (.inl (y301.1.1, y335.1.1, y376.1.1, y415.1.1, y415.1.2.1, true, ()))) (cond (!(y362.1.2.2.1 == y370.1.2.2.1)) (some (.inl (y301.1.1, y335.1.1, y376.1.1, y415.1.1, y415.1.2.1, true, ()))) (cond (y362.1.1 != y370.1.1) (some (.inl (y301.1.1, y335.1.1, y376.1.1, y415.1.1, y415.1.2.1, true, ()))) (cond (y362.1.2.1 != y370.1.2.1) (some (.inl (y301.1.1, y335.1.1, y376.1.1, y415.1.1, y415.1.2.1, true, ()))) (cond (!(y384.1.2.2.1 == y392.1.2.2.1)) (some (.inl (y301.1.1, y335.1.1, y376.1.1, y415.1.1, y415.1.2.1, true, ()))) (cond (y384.1.1 != y392.1.1) (some (.inl (y301.1.1, y335.1.1, y376.1.1, y415.1.1, y415.1.2.1, true, ()))) (cond (y384.1.2.1 != y392.1.2.1) (some (.inl (y301.1.1, y335.1.1, y376.1.1, y415.1.1, y415.1.2.1, true, ()))) (cond (!(y404.1.2.1 == y410.1.2.1)) (some (.inl (y301.1.1, y335.1.1, y376.1.1, y415.1.1, y415.1.2.1, true, ()))) (Option.bind (laws_zSame_f k y404.1.1 y410.1.1) (fun y513 => (cond (!y513.1.1) (some (.inl (y301.1.1, y335.1.1, y376.1.1, y415.1.1, y415.1.2.1, true, ()))) (cond (!(y421.1.2.2.1 == y428.1.2.2.1)) (some (.inl (y301.1.1, y335.1.1, y376.1.1, y415.1.1, y415.1.2.1, true, ()))) (cond (y421.1.1 != y428.1.1) (some (.inl (y301.1.1, y335.1.1, y376.1.1, y415.1.1, y415.1.2.1, true, ()))) (cond (y421.1.2.1 != y428.1.2.1) (some (.inl (y301.1.1, y335.1.1, y376.1.1, y415.1.1, y415.1.2.1, true, ()))) (cond y345.1.2.2.1 (some (.inl (y301.1.1, y335.1.1, y376.1.1, y415.1.1, y415.1.2.1, (!y362.1.2.2.1), ()))) (some (.inl (y301.1.1, y335.1.1, y376.1.1, y415.1.1, y415.1.2.1, false, ())))))))))))))))))))))))))) (fun j12 => (cond j12.2.2.2.2.2.1 (some ((false, ()), ())) (met (cond y304.1.2.2.1 (met (Option.bind (laws_zLow_f k y304.1.1 y304.1.2.1) (fun y541 => (cond (!y541.1.1) (some (.inl (true, ()))) (some (.inl ((decide (y304.1.1 < (iw (2 * y304.1.2.1)))), ())))))) (fun j13 => (cond j13.1 (some (.inr ((false, ()), ()))) (Option.bind (laws_zSum_f k j12.1) (fun y550 => (met (cond (decide (y550.1.1 ≤ 8)) (met (laws_FnChancesNext_l14 k y550 1 2) (fun j15 => (met (laws_FnChancesNext_l16 k j12 y550 j15 0 0 1) (fun j18 => (met (cond (j18.1 != (iw (j15.1 * j15.1))) (some (.inl (true, ()))) (chk (!(y304.1.2.1 == 0)) (cond ((Int.tmod (iw (j15.1 * j15.1)) y304.1.2.1) != 0) (some (.inl (true, ()))) (chk (!(y304.1.2.1 == 0)) (some (.inl (((iw (y304.1.1 * (iw (Int.tdiv (iw (j15.1 * j15.1)) y304.1.2.1)))) != j18.2.1), ()))))))) (fun j19 => (cond j19.1 (some (.inr (.inr ((false, ()), ())))) (some (.inl ()))))))))) (some (.inl ()))) (fun j20 => (some (.inl ()))))))))) (some (.inl ()))) (fun j21 => (met (cond y322.1.2.2.1 (Option.bind (laws_zLow_f k y322.1.1 y322.1.2.1) (fun y622 => (cond (!y622.1.1) (some (.inl (true, ()))) (cond (y316.1.2.1 == 1) (some (.inl ((y322.1.1 != 0), ()))) (some (.inl (false, ()))))))) (some (.inl (false, ())))) (fun j22 => (cond j22.1 (some ((false, ()), ())) (met (cond y345.1.2.2.1 (met (Option.bind (laws_zLow_f k y345.1.1 y345.1.2.1) (fun y636 => (cond (!y636.1.1) (some (.inl (true, ()))) (cond (y335.1.2.2.2.1 == 0) (cond (y345.1.1 != 1) (some (.inl (true, ()))) (cond (y345.1.2.1 != 1) (some (.inl (true, ()))) (ixk y335.1.2.1 (List.length j12.2.1) (Option.bind (laws_zSum_f k j12.2.1) (fun y653 => (some (.inl (((iw (y362.1.1 * y653.1.1)) != (iw ((iw (y335.1.2.2.1 * (rd j12.2.1 y335.1.2.1))) * y362.1.2.1))), ())))))))) (ixk y335.1.2.1 (List.length j12.2.1) (Option.bind (laws_zSum_f k j12.2.1) (fun y653_1 => (some (.inl (((iw (y362.1.1 * y653_1.1.1)) != (iw ((iw (y335.1.2.2.1 * (rd j12.2.1 y335.1.2.1))) * y362.1.2.1))), ())))))))))) (fun j23 => (cond j23.1 (some (.inr ((false, ()), ()))) (some (.inl ()))))) (some (.inl ()))) (fun j24 => (met (cond y384.1.2.2.1 (Option.bind (impl_WaysToDraw_f k j12.2.2.1 y376.1.2.1) (fun y669 => (met (laws_FnChancesNext_l25 k y376 j12 y669 0 0) (fun j27 => (met (cond (!y669.1.2.1) (some (.inl (true, ()))) (some (.inl ((j27.1 != y669.1.1), ())))) (fun j28 => (cond j28.1 (some (.inr ((false, ()), ()))) (some (.inl ()))))))))) (some (.inl ()))) (fun j29 => (cond y421.1.2.2.1 (Option.bind (impl_ChanceTogether_f k j12.2.2.2.2.1 j12.2.2.2.1) (fun y712 => (met (Option.bind (laws_zLow_f k y421.1.1 y421.1.2.1) (fun y718 => (cond y718.1.1 (cond y712.1.2.2.1 (cond (y712.1.1 == y421.1.1) (some (.inl ((y712.1.2.1 == y421.1.2.1), ()))) (some (.inl (false, ())))) (some (.inl (false, ())))) (some (.inl (false, ())))))) (fun j30 => (some ((j30.1, ()), ())))))) (some ((true, ()), ())))))))))))))))))))))))))))))))))))))))))))))))))))))))

theorem met_go {α β : Type} {o : Option (β ⊕ α)} {K : β → Option α} {r : Option α} (v : β) (h : o = some (.inl v)) (h2 : K v = r) : met o K = r := by rw [h]; exact h2
theorem chk_t {α : Type} (K : Option α) : chk true K = K := rfl
/-! ### What a fraction in lowest terms gives back -/
theorem back (w d q : Nat) (hd : 0 < d) : 0 < d / Nat.gcd w d ∧ d * q % (d / Nat.gcd w d) = 0 ∧ d * q / (d / Nat.gcd w d) = Nat.gcd w d * q ∧ w / Nat.gcd w d * (Nat.gcd w d * q) = w * q := by
  have g1 : 0 < Nat.gcd w d := Nat.gcd_pos_of_pos_right _ hd
  have ew := Nat.div_mul_cancel (Nat.gcd_dvd_left w d)
  have ed := Nat.div_mul_cancel (Nat.gcd_dvd_right w d)
  have hp : 0 < d / Nat.gcd w d := Nat.div_pos (Nat.le_of_dvd hd (Nat.gcd_dvd_right w d)) g1
  generalize w / Nat.gcd w d = x at *
  generalize d / Nat.gcd w d = y at *
  generalize Nat.gcd w d = g at *
  have e : d * q = g * q * y := by rw [← ed]; grind
  refine ⟨hp, ?_, ?_, ?_⟩
  · rw [e]; exact Nat.mul_mod_left _ _
  · rw [e]; exact Nat.mul_div_cancel _ hp
  · rw [← ew]; grind
theorem backI (w d q : Nat) (hd : 0 < d) (hq : d * q ≤ 1152921504606846976) :
    (((d / Nat.gcd w d : Nat) : Int) == 0) = false ∧ (Int.tmod ((d * q : Nat) : Int) ((d / Nat.gcd w d : Nat) : Int) != 0) = false ∧ iw (Int.tdiv ((d * q : Nat) : Int) ((d / Nat.gcd w d : Nat) : Int)) = ((Nat.gcd w d * q : Nat) : Int) := by
  obtain ⟨h1, h2, h3, _⟩ := back w d q hd
  have hle := Nat.div_le_self (d * q) (d / Nat.gcd w d)
  refine ⟨by simp; omega, ?_, ?_⟩
  · rw [Int.tmod_eq_emod_of_nonneg (by omega), show ((d * q : Nat) : Int) % ((d / Nat.gcd w d : Nat) : Int) = ((d * q % (d / Nat.gcd w d) : Nat) : Int) from rfl, h2]; rfl
  · rw [Int.tdiv_eq_ediv_of_nonneg (by omega), show ((d * q : Nat) : Int) / ((d / Nat.gcd w d : Nat) : Int) = ((d * q / (d / Nat.gcd w d) : Nat) : Int) from rfl, iw_id (by omega) (by omega), h3]
theorem natNe (a : Nat) (b : Nat) (h : a = b) : (((a : Nat) : Int) != ((b : Nat) : Int)) = false := by rw [h]; simp
/-! ### The next sock -/
theorem lawMatch_loop (k : Nat) (hk : 100 ≤ k) {S D : List Int} (hS : in20 S) (I : Is S D) (h8 : S.length ≤ 8) (b : Bool) (hT : total (nats' S) ≤ 160) :
    laws_FnChancesNext_l2 k ((S, D, ()), ()) (D, b, ()) 0 0 = some (.inl ((matchN S D S.length : Int), ())) := by
  have hl := I.len
  unfold laws_FnChancesNext_l2
  refine iter_to (fun j => ((matchN S D j : Int), (j : Int), ())) S.length _ (fun j hj rec => ?_) (fun rec => ?_) k (by omega)
  · have hm := match_le I (j + 1)
    have hs : sumN (at' S) (j + 1) ≤ 160 := by rw [total_at] at hT; exact Nat.le_trans (sumN_mono (by omega)) hT
    have hle := I.le j
    have h20 := at_le hS j
    simp only [laws_FnChancesNext_l2_b]
    rw [cond_dec, if_pos (by omega), ixk_in (by omega) (by omega), at_is hS j, at_is I.inD j, tmod2, iw_nat (by omega)]
    simp only [matchN, sumN] at hm hs ⊢
    by_cases h : at' D j % 2 = 1
    · rw [if_pos h] at hm ⊢
      have : (((at' D j % 2 : Nat) : Int) == 1) = true := by simp; omega
      rw [this, cond_true, ixk_in (by omega) (by omega), iw_id (x := (at' S j : Int) - (at' D j : Int)) (by omega) (by omega)]
      simp only [met_inl]
      rw [iw_id (by omega) (by omega)]
      congr 2
      omega
    · rw [if_neg h] at hm ⊢
      have : (((at' D j % 2 : Nat) : Int) == 1) = false := by simp; omega
      rw [this]
      rfl
  · simp only [laws_FnChancesNext_l2_b]
    rw [cond_dec, if_neg (by omega)]
theorem segNext_is (k : Nat) (hk : 1000000000000000 ≤ k) (S D : List Int) (h8 : S.length ≤ 8) (h9 : D.length ≤ 9) (b : Bool) : segNext k ((S, D, ()), ()) (nextVal S D) (D, b, ()) = some (.inl ()) := by
  unfold segNext nextVal
  by_cases hv : (few S && isB S D) = true
  · rw [if_pos hv]
    by_cases he : total (nats' D) = total (nats' S)
    · rw [if_pos he]; rfl
    · rw [if_neg he]
      simp only [Bool.and_eq_true] at hv
      have F := few_is hv.1
      have I := is_is hv.2 F.inS
      obtain ⟨h1, h2⟩ := few_sum F
      have hle := is_total I
      have hm := match_le I S.length
      rw [← total_at, ← I.len, ← total_at, I.len] at hm
      have hd : 0 < total (nats' S) - total (nats' D) := by omega
      unfold chOut
      simp only [cond_true]
      rw [zSum_is k S (by omega) (by omega), zSum_is k D (by omega) (by omega), h1, is_sum I h8]
      simp only [Option.bind_some]
      rw [lawMatch_loop k (by omega) F.inS I h8 b (by omega)]
      simp only [met_inl]
      rw [zLow_is k _ _ (by omega) hd]
      simp only [Option.bind_some, Bool.not_true, cond_false, met_inl]
      rw [iw_id (x := ((total (nats' S) : Nat) : Int) - _) (by omega) (by omega), show ((total (nats' S) : Nat) : Int) - ((total (nats' D) : Nat) : Int) = ((total (nats' S) - total (nats' D) : Nat) : Int) by omega, mulI, mulI]
      generalize matchN S D S.length = w at *
      generalize hdd : total (nats' S) - total (nats' D) = d at *
      obtain ⟨_, _, b3, b4⟩ := back w d 1 hd
      have ed := Nat.div_mul_cancel (Nat.gcd_dvd_right w d)
      have q1 := Nat.div_le_self w (Nat.gcd w d)
      have q2 := Nat.div_le_self d (Nat.gcd w d)
      have m1 : w / Nat.gcd w d * d ≤ 40 * 40 := Nat.mul_le_mul (by omega) (by omega)
      have m2 : w * (d / Nat.gcd w d) ≤ 40 * 40 := Nat.mul_le_mul (by omega) (by omega)
      have e : w / Nat.gcd w d * d = w * (d / Nat.gcd w d) := by
        have ew := Nat.div_mul_cancel (Nat.gcd_dvd_left w d)
        generalize w / Nat.gcd w d = x at *
        generalize d / Nat.gcd w d = y at *
        generalize Nat.gcd w d = g at *
        rw [← ew, ← ed]; grind
      rw [iw_id (by omega) (by omega), iw_id (by omega) (by omega), natNe _ _ e]
      rfl
  · rw [if_neg hv]; rfl
/-! ### The likeliest draw -/
theorem is_true {S D : List Int} (I : Is S D) (hS : in20 S) : isB S D = true := by
  unfold isB
  simp only [Bool.and_eq_true, decide_eq_true_eq, List.all_eq_true, List.mem_range]
  refine ⟨I.len, fun i _ => ?_⟩
  have := I.le i
  rw [at_is hS, at_is I.inD]
  omega
theorem segDraw_is (k : Nat) (hk : 1000000000000000 ≤ k) (S D : List Int) (h8 : S.length ≤ 8) (h9 : D.length ≤ 9) (b : Bool) : segDraw k ((S, D, ()), ()) (chDraw S D) (D, b, ()) = some (.inl ()) := by
  unfold segDraw
  by_cases hv : (few S && isB S D) = true
  · have hcd : chDraw S D = chOut (wy S D) (ch (total (nats' S)) (total (nats' D))) := by unfold chDraw; rw [if_pos hv]
    rw [hcd]
    simp only [Bool.and_eq_true] at hv
    have F := few_is hv.1
    have I := is_is hv.2 F.inS
    obtain ⟨h1, h2⟩ := few_sum F
    have hle := is_total I
    have hpos := ch_pos _ _ hle
    have hsm := ch_small (total (nats' D)) h2
    have hw := wy_le I.len
    have hw0 : 0 < wy S D := prod_pos _ fun i _ => I.le i
    have hn := num_true hv.1 _ hle
    obtain ⟨b1, b2, b3⟩ := backI (wy S D) (ch (total (nats' S)) (total (nats' D))) 1 hpos (by omega)
    obtain ⟨_, _, _, b4⟩ := back (wy S D) (ch (total (nats' S)) (total (nats' D))) 1 hpos
    have hg1 : 1 ≤ wy S D / Nat.gcd (wy S D) (ch (total (nats' S)) (total (nats' D))) := Nat.div_pos (Nat.le_of_dvd hw0 (Nat.gcd_dvd_left _ _)) (Nat.gcd_pos_of_pos_right _ hpos)
    have hz := zLow_is k (wy S D) (ch (total (nats' S)) (total (nats' D))) (by omega) hpos
    rw [Nat.mul_one] at b2 b3 b4
    rw [Nat.mul_one] at b3 b4
    unfold chOut
    simp only [cond_true]
    rw [zSum_is k D (by omega) (by omega), is_sum I h8]
    simp only [Option.bind_some]
    rw [implWays_is k hk S h8, implLik_is k hk S h8, hz]
    unfold waysVal likVal likB
    rw [hn, if_pos rfl, Int.toNat_natCast]
    simp only [Option.bind_some, Bool.not_true, Bool.true_and, cond_false, b1, b2, Bool.not_false, chk_t, met_inl]
    rw [decide_eq_false (show ¬ (((wy S D / Nat.gcd (wy S D) (ch (total (nats' S)) (total (nats' D))) : Nat) : Int) < 1) by omega)]
    simp only [cond_false]
    by_cases h5 : V ones (nats' S) (total (nats' D) : Int) ≤ 5000
    · rw [decide_eq_true h5, if_pos rfl]
      simp only [cond_true]
      obtain ⟨I2, ht, hbest⟩ := bestD_is F I
      obtain ⟨B, hB⟩ : ∃ B, bestD S (total (nats' D)) = B := ⟨_, rfl⟩
      rw [hB] at I2 ht hbest ⊢
      have hl2 := I2.len
      have hcd2 : chDraw S B = chOut (wy S B) (ch (total (nats' S)) (total (nats' D))) := by
        unfold chDraw
        rw [hv.1, is_true I2 F.inS, Bool.and_self, if_pos rfl, ht]
      rw [implChDraw_is k hk S B h8 (by omega), hcd2]
      unfold chOut
      have hw2 := wy_le I2.len
      rw [ht] at hw2
      obtain ⟨c1, c2, c3⟩ := backI (wy S B) (ch (total (nats' S)) (total (nats' D))) 1 hpos (by omega)
      obtain ⟨_, _, _, c4⟩ := back (wy S B) (ch (total (nats' S)) (total (nats' D))) 1 hpos
      rw [Nat.mul_one] at c2 c3 c4
      rw [Nat.mul_one] at c3 c4
      simp only [Option.bind_some]
      rw [zSum_is k B (by omega) (by omega), is_sum I2 h8, ht, zBefore_is k (by omega) B D (by omega) (by omega)]
      simp only [Option.bind_some, Bool.not_true, cond_false, c1, c2, b1, b2, Bool.not_false, chk_t, bne_self_eq_false, b3, c3, mulI, b4, c4]
      rw [iw_id (x := ((wy S B : Nat) : Int)) (by omega) (by omega), iw_id (x := ((wy S D : Nat) : Int)) (by omega) (by omega)]
      rcases hbest with hlt | ⟨heq, hzb⟩
      · have e1 : decide (((wy S B : Nat) : Int) < ((wy S D : Nat) : Int)) = false := decide_eq_false (by omega)
        have e2 : (((wy S B : Nat) : Int) == ((wy S D : Nat) : Int)) = false := by simp; omega
        rw [e1, e2]; rfl
      · have e1 : decide (((wy S B : Nat) : Int) < ((wy S D : Nat) : Int)) = false := decide_eq_false (by omega)
        have e2 : (((wy S B : Nat) : Int) == ((wy S D : Nat) : Int)) = true := by simp; omega
        rw [e1, e2, hzb]; rfl
    · rw [decide_eq_false h5]; rfl
  · have : chDraw S D = noCh := by unfold chDraw; rw [if_neg hv]
    rw [this]; rfl
/-! ### The mean -/
def fac : Nat → Nat
  | 0 => 1
  | n + 1 => (n + 1) * fac n
theorem fac_pos : ∀ n, 0 < fac n
  | 0 => by decide
  | n + 1 => Nat.mul_pos (by omega) (fac_pos n)
theorem fac_mono {n m : Nat} (h : n ≤ m) : fac n ≤ fac m := by
  induction m with
  | zero => rw [show n = 0 by omega]; exact Nat.le_refl _
  | succ m ih =>
    rcases Nat.lt_or_ge m n with h1 | h1
    · rw [show n = m + 1 by omega]; exact Nat.le_refl _
    · exact Nat.le_trans (ih h1) (Nat.le_mul_of_pos_left _ (by omega))
theorem fac_small {n : Nat} (h : n ≤ 8) : fac n ≤ 40320 := fac_mono h
theorem ch_fac (n : Nat) : ∀ k, k ≤ n → ch n k * (fac k * fac (n - k)) = fac n
  | 0, _ => by rw [ch_zero]; simp [fac]
  | k + 1, h => by
    have ih := ch_fac n k (by omega)
    have hs := ch_step n k (by omega)
    obtain ⟨m, hm⟩ : ∃ m, n - k = m + 1 := ⟨n - k - 1, by omega⟩
    rw [hm] at ih hs
    rw [show n - (k + 1) = m by omega]
    simp only [fac] at ih ⊢
    rw [← ih]
    grind
/-- What first pairs have in parts. -/
def partQ (T j : Nat) : Nat := fac j * fac (T - (j + 1)) * fac T
theorem partQ_is (T j : Nat) (h : j < T) : ch T j * (T - j) * partQ T j = fac T * fac T := by
  have h1 := ch_fac T j (by omega)
  obtain ⟨m, hm⟩ : ∃ m, T - j = m + 1 := ⟨T - j - 1, by omega⟩
  have hm' : T - (j + 1) = m := by omega
  unfold partQ
  rw [hm', hm]
  rw [hm] at h1
  simp only [fac] at h1
  generalize fac T = t at *
  rw [← h1]
  grind
theorem part1 (T j : Nat) (h : j < T) : fac T * fac T / ch T j = (T - j) * partQ T j := by
  rw [← partQ_is T j h, Nat.mul_assoc, Nat.mul_div_cancel_left _ (ch_pos _ _ (by omega))]
theorem part2 (T j : Nat) (h : j < T) : fac T * fac T / ch T (j + 1) = (j + 1) * partQ T j := by
  rw [← partQ_is T j h, ← ch_step T j (by omega), Nat.mul_assoc, Nat.mul_div_cancel_left _ (ch_pos _ _ (by omega))]
section
variable {S : List Int}
def gN (S : List Int) (j : Nat) : Nat := EU (at' S) S.length j * (fac (total (nats' S)) * fac (total (nats' S)) / ch (total (nats' S)) j)
def fN (S : List Int) (j : Nat) : Nat := firstW S j * partQ (total (nats' S)) j
theorem fg (j : Nat) (h : j < total (nats' S)) : fN S j + gN S (j + 1) = gN S j := by
  unfold fN gN firstW
  rw [part1 _ _ h, part2 _ _ h]
  have e := EM_is (at' S) S.length j
  rw [← total_at] at e
  obtain ⟨m, hm⟩ : ∃ m, total (nats' S) = j + m := ⟨total (nats' S) - j, by omega⟩
  rw [hm, show j + m - j = m by omega]
  rw [hm] at e
  generalize partQ (j + m) j = q
  generalize EM (at' S) S.length j = M at *
  generalize EU (at' S) S.length (j + 1) = U1 at *
  generalize EU (at' S) S.length j = U0 at *
  have e2 : M + (j + 1) * U1 = m * U0 := by
    have : (j + m) * U0 = m * U0 + j * U0 := by grind
    omega
  have : M * q + (j + 1) * U1 * q = m * U0 * q := by rw [← Nat.add_mul, e2]
  grind
theorem fsum : ∀ J, J ≤ total (nats' S) → sumN (fN S) J + gN S J = fac (total (nats' S)) * fac (total (nats' S))
  | 0, _ => by
    simp only [sumN, gN, EU_zero, ch_zero, Nat.div_one, Nat.one_mul, Nat.zero_add]
  | J + 1, h => by
    have h1 := fsum J (by omega)
    have h2 := fg (S := S) J (by omega)
    simp only [sumN]; omega
theorem fpts : ∀ J, J ≤ total (nats' S) → sumN (fun j => (j + 1) * fN S j) J + J * gN S J = sumN (gN S) J
  | 0, _ => by simp [sumN]
  | J + 1, h => by
    have h1 := fpts J (by omega)
    have h2 := fg (S := S) J (by omega)
    simp only [sumN]
    rw [← h1, ← h2]
    grind
theorem gN_last (G : Good S) (hp : halves (nats' S) ≠ 0) (j : Nat) (h : total (nats' S) ≤ j) : gN S j = 0 := by
  have h1 := cnt_half (at' S) S.length
  rw [← total_at, ← halves_at] at h1
  unfold gN
  rw [EU_far _ _ _ (by omega), Nat.zero_mul]
theorem PS_g (L : Nat) (hL : L = fac (total (nats' S)) * fac (total (nats' S))) (J : Nat) : PS S L J = sumN (gN S) J := by
  unfold PS gN; rw [hL]
end
theorem EU_one (a : Nat → Nat) : ∀ i, EU a i 1 = sumN a i
  | 0 => rfl
  | i + 1 => by simp only [EU, sumN]; rw [EU_one a i, EU_zero]; omega
theorem ch_one (n : Nat) : ch n 1 = n := by
  simpa [ch_zero] using ch_step n 0 (Nat.zero_le _)
theorem mean_two {S : List Int} (hT : total (nats' S) ≤ 16) (h1 : 0 < total (nats' S)) : 2 * 720720 ≤ PS S 720720 17 := by
  have h2 : PS S 720720 2 = 720720 + total (nats' S) * (720720 / total (nats' S)) := by
    simp only [PS, sumN]
    rw [EU_zero, EU_one, ch_zero, ch_one, ← total_at]
  have h3 := ch_dvd (total (nats' S)) (by omega) 1 (by omega) h1
  rw [ch_one] at h3
  have h4 : total (nats' S) * (720720 / total (nats' S)) = 720720 := Nat.mul_div_cancel' (Nat.dvd_of_mod_eq_zero h3)
  have h5 : PS S 720720 2 ≤ PS S 720720 17 := sumN_mono (by omega)
  omega
/-- Parts of another whole. -/
theorem PS_other {S : List Int} {L M : Nat} (h1 : ∀ k, k ≤ total (nats' S) → L % ch (total (nats' S)) k = 0) (h2 : ∀ k, k ≤ total (nats' S) → M % ch (total (nats' S)) k = 0) : ∀ J, PS S L J * M = PS S M J * L
  | 0 => by simp [PS, sumN]
  | J + 1 => by
    have ih := PS_other h1 h2 J
    have e : ∀ L, PS S L (J + 1) = PS S L J + EU (at' S) S.length J * (L / ch (total (nats' S)) J) := fun L => rfl
    rw [e, e, Nat.add_mul, Nat.add_mul, ih]
    congr 1
    by_cases h : J ≤ total (nats' S)
    · have d1 := Nat.div_mul_cancel (Nat.dvd_of_mod_eq_zero (h1 J h))
      have d2 := Nat.div_mul_cancel (Nat.dvd_of_mod_eq_zero (h2 J h))
      generalize L / ch (total (nats' S)) J = x at *
      generalize M / ch (total (nats' S)) J = y at *
      rw [← d1, ← d2]; grind
    · rw [ch_far _ _ (by omega)]; simp
theorem fac_dvd (T k : Nat) (h : k ≤ T) : fac T * fac T % ch T k = 0 := by
  have := ch_fac T k h
  rw [← this, Nat.mul_assoc]; exact Nat.mul_mod_right _ _
section
variable (k : Nat) (hk : 1000000000000000 ≤ k) {S : List Int} (G : Good S)
include hk G
theorem l14_is (h2 : 1 ≤ total (nats' S)) (h8 : total (nats' S) ≤ 8) : laws_FnChancesNext_l14 k (((total (nats' S) : Int), ()), ()) 1 2 = some (.inl ((fac (total (nats' S)) : Int), ())) := by
  have _hG := G
  unfold laws_FnChancesNext_l14
  refine iter_to (fun j => ((fac (j + 1) : Int), ((j + 2 : Nat) : Int), ())) (total (nats' S) - 1) _ (fun j hj rec => ?_) (fun rec => ?_) k (by omega)
  · have h1 := fac_small (n := j + 2) (by omega)
    simp only [laws_FnChancesNext_l14_b]
    rw [cond_dec, if_pos (by omega), mulI, Nat.mul_comm, show (j + 2) * fac (j + 1) = fac (j + 2) from rfl, iw_nat (n := j + 2) (by omega), iw_id (by omega) (by omega)]
  · simp only [laws_FnChancesNext_l14_b]
    rw [cond_dec, if_neg (by omega), show total (nats' S) - 1 + 1 = total (nats' S) by omega]
theorem l16_is (hp : halves (nats' S) ≠ 0) (hf : few S = true) (h8 : total (nats' S) ≤ 8) (a b c d : List Int) (u : Bool) :
    laws_FnChancesNext_l16 k (S, a, b, c, d, u, ()) (((total (nats' S) : Int), ()), ()) ((fac (total (nats' S)) : Int), ()) 0 0 1 = some (.inl (((fac (total (nats' S)) * fac (total (nats' S)) : Nat) : Int), ((PS S (fac (total (nats' S)) * fac (total (nats' S))) 17 : Nat) : Int), ())) := by
  have hl8 := G.l8
  have hfs := fac_small h8
  have hff : fac (total (nats' S)) * fac (total (nats' S)) ≤ 40320 * 40320 := Nat.mul_le_mul hfs hfs
  have efac : iw ((fac (total (nats' S)) : Int) * (fac (total (nats' S)) : Int)) = ((fac (total (nats' S)) * fac (total (nats' S)) : Nat) : Int) := by
    rw [mulI, iw_id (by omega) (by omega)]
  have hbs : ∀ J, J ≤ total (nats' S) → sumN (fN S) J ≤ 1625702400 := fun J h => by have := fsum (S := S) J h; omega
  have hg : ∀ j, gN S j ≤ 1625702400 := fun j => by
    have h1 := EU_ch (at' S) S.length j
    rw [← total_at] at h1
    have h2 := Nat.mul_le_mul_right (fac (total (nats' S)) * fac (total (nats' S)) / ch (total (nats' S)) j) h1
    have h3 := Nat.mul_div_le (fac (total (nats' S)) * fac (total (nats' S))) (ch (total (nats' S)) j)
    unfold gN; omega
  have hgs : ∀ J, sumN (gN S) J ≤ J * 1625702400 := fun J => by
    induction J with
    | zero => simp [sumN]
    | succ J ih => have := hg J; simp only [sumN]; omega
  have hbp : ∀ J, J ≤ total (nats' S) → sumN (fun j => (j + 1) * fN S j) J ≤ 8 * 1625702400 := fun J h => by
    have h1 := fpts (S := S) J h
    have h2 := hgs J
    have h3 : J * 1625702400 ≤ 8 * 1625702400 := Nat.mul_le_mul_right _ (by omega)
    omega
  have hlast := gN_last G hp
  have r1 : sumN (fN S) (total (nats' S)) = fac (total (nats' S)) * fac (total (nats' S)) := by
    have := fsum (S := S) _ (Nat.le_refl _)
    rw [hlast _ (Nat.le_refl _)] at this
    exact this
  have r2 : sumN (fun j => (j + 1) * fN S j) (total (nats' S)) = PS S (fac (total (nats' S)) * fac (total (nats' S))) 17 := by
    have := fpts (S := S) _ (Nat.le_refl _)
    rw [hlast _ (Nat.le_refl _)] at this
    rw [PS_g _ rfl, sumN_more (f := gN S) (n := total (nats' S)) (by omega) fun i h1 _ => hlast i h1]
    omega
  unfold laws_FnChancesNext_l16
  rw [← r2]
  conv => rhs; rw [← r1]
  refine iter_to (fun j => ((sumN (fN S) j : Int), (sumN (fun j => (j + 1) * fN S j) j : Int), ((j + 1 : Nat) : Int), ())) (total (nats' S)) _ (fun j hj rec => ?_) (fun rec => ?_) k (by omega)
  · have hn := num_true hf (j + 1) (by omega)
    have hd : 0 < ch (total (nats' S)) j * (total (nats' S) - j) := Nat.mul_pos (ch_pos _ _ (by omega)) (by omega)
    have hq := partQ_is (total (nats' S)) j hj
    obtain ⟨b1, b2, b3⟩ := backI (firstW S j) (ch (total (nats' S)) j * (total (nats' S) - j)) (partQ (total (nats' S)) j) hd (by omega)
    obtain ⟨_, _, _, b4⟩ := back (firstW S j) (ch (total (nats' S)) j * (total (nats' S) - j)) (partQ (total (nats' S)) j) hd
    have hv : firstVal S ((j + 1 : Nat) : Int) = chOut (firstW S j) (ch (total (nats' S)) j * (total (nats' S) - j)) := by
      unfold firstVal
      rw [hn, decide_eq_true (show (1 : Int) ≤ ((j + 1 : Nat) : Int) by omega), Bool.and_self, if_pos rfl, Int.toNat_natCast]; rfl
    rw [hq] at b2 b3
    have s1 := hbs (j + 1) (by omega)
    have s2 := hbp (j + 1) (by omega)
    simp only [sumN] at s1 s2
    have hfb : fN S j = firstW S j / Nat.gcd (firstW S j) (ch (total (nats' S)) j * (total (nats' S) - j)) * (Nat.gcd (firstW S j) (ch (total (nats' S)) j * (total (nats' S) - j)) * partQ (total (nats' S)) j) := b4.symm
    simp only [laws_FnChancesNext_l16_b]
    rw [cond_dec, if_pos (by omega), implFirst_is k hk S hl8, hv]
    unfold chOut
    simp only [Option.bind_some, Bool.not_true, cond_false, efac, b1, b2, b3, Bool.not_false, chk_t, met_inl]
    have hy0 : 0 < Nat.gcd (firstW S j) (ch (total (nats' S)) j * (total (nats' S) - j)) * partQ (total (nats' S)) j := Nat.mul_pos (Nat.gcd_pos_of_pos_right _ hd) (Nat.mul_pos (Nat.mul_pos (fac_pos _) (fac_pos _)) (fac_pos _))
    generalize firstW S j / Nat.gcd (firstW S j) (ch (total (nats' S)) j * (total (nats' S) - j)) = x at *
    generalize hyy : Nat.gcd (firstW S j) (ch (total (nats' S)) j * (total (nats' S) - j)) * partQ (total (nats' S)) j = y at *
    rw [mulI, ← hfb, iw_id (x := ((fN S j : Nat) : Int)) (by omega) (by omega), iw_id (by omega) (by omega), iw_nat (by omega)]
    have hxy : (j + 1) * x * y = (j + 1) * fN S j := by rw [hfb, Nat.mul_assoc]
    have hx : (j + 1) * x ≤ (j + 1) * x * y := Nat.le_mul_of_pos_right _ hy0
    rw [hxy] at hx
    rw [mulI, iw_id (x := (((j + 1) * x : Nat) : Int)) (by omega) (by omega), mulI, hxy, iw_id (x := (((j + 1) * fN S j : Nat) : Int)) (by omega) (by omega), iw_id (by omega) (by omega)]
    rfl
  · simp only [laws_FnChancesNext_l16_b]
    rw [cond_dec, if_neg (by omega)]
end
theorem segMean_is (k : Nat) (hk : 1000000000000000 ≤ k) (S : List Int) (h8 : S.length ≤ 8) (a b c d : List Int) (u : Bool) : segMean k (meanU S) (S, a, b, c, d, u, ()) = some (.inl ()) := by
  unfold segMean meanU
  by_cases hv : meanB S = true
  · rw [if_pos hv]
    unfold meanB at hv
    simp only [Bool.and_eq_true, decide_eq_true_eq, Bool.not_eq_true', decide_eq_false_iff_not] at hv
    obtain ⟨hg, hT, hp⟩ := hv
    have G := good_is hg
    obtain ⟨s1, s2, s3⟩ := good_sum G
    have h2 := mean_two hT s3
    have hg0 : 0 < Nat.gcd (PS S 720720 17) 720720 := Nat.gcd_pos_of_pos_right _ (by omega)
    have hz := zLow_is k (PS S 720720 17) 720720 (by omega) (by omega)
    have hge : 2 * (720720 / Nat.gcd (PS S 720720 17) 720720) ≤ PS S 720720 17 / Nat.gcd (PS S 720720 17) 720720 := by
      rw [← Nat.mul_div_assoc 2 (Nat.gcd_dvd_right (PS S 720720 17) 720720)]
      exact Nat.div_le_div_right h2
    have q2 := Nat.div_le_self 720720 (Nat.gcd (PS S 720720 17) 720720)
    unfold chOut
    simp only [cond_true]
    rw [hz]
    simp only [Option.bind_some, Bool.not_true, cond_false]
    rw [iw_id (x := (2 : Int) * _) (by omega) (by omega), decide_eq_false (show ¬ (((PS S 720720 17 / Nat.gcd (PS S 720720 17) 720720 : Nat) : Int) < 2 * ((720720 / Nat.gcd (PS S 720720 17) 720720 : Nat) : Int)) by omega)]
    simp only [met_inl, cond_false]
    rw [zSum_is k S (by omega) (by omega), s1]
    simp only [Option.bind_some]
    by_cases hall : total (nats' S) ≤ 8
    · have hf : few S = true := by unfold few; rw [hg, s1, decide_eq_true (by omega)]; rfl
      have hfs := fac_small hall
      have hff : fac (total (nats' S)) * fac (total (nats' S)) ≤ 40320 * 40320 := Nat.mul_le_mul hfs hfs
      have hfp : 0 < fac (total (nats' S)) * fac (total (nats' S)) := Nat.mul_pos (fac_pos _) (fac_pos _)
      have efac : iw ((fac (total (nats' S)) : Int) * (fac (total (nats' S)) : Int)) = ((fac (total (nats' S)) * fac (total (nats' S)) : Nat) : Int) := by
        rw [mulI, iw_id (by omega) (by omega)]
      rw [decide_eq_true (show ((total (nats' S) : Nat) : Int) ≤ 8 by omega), l14_is k hk G s3 hall]
      simp only [cond_true, met_inl]
      rw [l16_is k hk G hp hf hall]
      have el := low_eq (a := PS S 720720 17) (b := 720720) (c := PS S (fac (total (nats' S)) * fac (total (nats' S))) 17) (d := fac (total (nats' S)) * fac (total (nats' S))) (by omega) hfp (PS_other (fun j hj => ch_dvd _ (by omega) j (by omega) hj) (fun j hj => fac_dvd _ j hj) 17)
      rw [el.1, el.2]
      have hps := PS_le S (fac (total (nats' S)) * fac (total (nats' S))) 17
      obtain ⟨b1, b2, b3⟩ := backI (PS S (fac (total (nats' S)) * fac (total (nats' S))) 17) (fac (total (nats' S)) * fac (total (nats' S))) 1 hfp (by omega)
      obtain ⟨_, _, _, b4⟩ := back (PS S (fac (total (nats' S)) * fac (total (nats' S))) 17) (fac (total (nats' S)) * fac (total (nats' S))) 1 hfp
      rw [Nat.mul_one] at b2 b3 b4
      rw [Nat.mul_one] at b3 b4
      simp only [met_inl, efac, bne_self_eq_false, cond_false, b1, Bool.not_false, chk_t]
      rw [b2, b3, mulI, b4, iw_id (by omega) (by omega)]
      simp only [bne_self_eq_false, cond_false, met_inl]
    · rw [decide_eq_false (show ¬ (((total (nats' S) : Nat) : Int) ≤ 8) by omega)]; rfl
  · rw [if_neg hv]; rfl
theorem segFirst_is (k : Nat) (hk : 1000000000000000 ≤ k) (S : List Int) (m : Int) : segFirst k ((S, m, ()), ()) (firstVal S m) = some (.inl (false, ())) := by
  unfold segFirst firstVal
  by_cases hv : (num S m && decide (1 ≤ m)) = true
  · rw [if_pos hv]
    simp only [Bool.and_eq_true, decide_eq_true_eq] at hv
    obtain ⟨n, rfl, M⟩ := num_is hv.1
    obtain ⟨d1, d2⟩ := firstD_small M (by omega)
    have hz := zLow_is k (firstW S (n - 1)) (firstD S (n - 1)) (by omega) d1
    rw [Int.toNat_natCast]
    by_cases h1 : n = 1
    · subst h1
      have e : firstW S (1 - 1) = 0 := by
        have h1 := EM_is (at' S) S.length 0
        rw [EU_zero, EU_one] at h1
        show EM (at' S) S.length 0 = 0
        omega
      rw [e] at hz ⊢
      unfold chOut
      simp only [cond_true]
      rw [hz]
      simp
    · have e : (((n : Nat) : Int) == 1) = false := by simp; omega
      unfold chOut
      simp only [cond_true]
      rw [hz, e]; rfl
  · rw [if_neg hv]; rfl
/-! ### Colours -/
theorem segCol_is (k : Nat) (hk : 1000000000000000 ≤ k) (S : List Int) (h8 : S.length ≤ 8) (c m l : Int) (a b e d : List Int) (u : Bool) :
    segCol k ((S, c, m, l, ()), ()) (chCol S c m l) (meanC S c m) (a, S, b, e, d, u, ()) = some (.inl ()) := by
  unfold segCol chCol
  by_cases hv : (num S m && (colB S c && decide (0 ≤ l))) = true
  · rw [if_pos hv]
    simp only [Bool.and_eq_true, decide_eq_true_eq] at hv
    obtain ⟨hn, hc, hl⟩ := hv
    have hmc : meanC S c m = chOut (m.toNat * at' S c.toNat) (total (nats' S)) := by unfold meanC; rw [hn, hc]; rfl
    rw [hmc]
    obtain ⟨n, rfl, M⟩ := num_is hn
    unfold colB at hc
    simp only [Bool.and_eq_true, decide_eq_true_eq] at hc
    obtain ⟨i, rfl⟩ : ∃ i : Nat, c = (i : Int) := ⟨c.toNat, by omega⟩
    simp only [Int.toNat_natCast]
    have hp := at_part i (show i < S.length by omega)
    have hT := M.T
    have hle := M.le
    have h20 := at_le M.F.inS i
    have hpos := ch_pos _ _ hle
    have hsm := ch_small n hT
    have htp := (good_sum M.F.toGood).2.2
    obtain ⟨T, hTT⟩ : ∃ T, total (nats' S) = T := ⟨_, rfl⟩
    rw [hTT] at hp hT hle hpos hsm htp ⊢
    have hcw := colW_all (at' S i) (T - at' S i) n l
    rw [show at' S i + (T - at' S i) = T by omega] at hcw
    have hz := zLow_is k (colW (at' S i) (T - at' S i) n l (at' S i + 1)) (ch T n) (by omega) hpos
    obtain ⟨own, how⟩ : ∃ own, at' S i = own := ⟨_, rfl⟩
    have hrd : rd S (i : Int) = (own : Int) := by rw [← how]; exact at_is M.F.inS i
    rw [how] at hcw hz h20 ⊢
    have hmul : n * own ≤ 40 * 20 := Nat.mul_le_mul (by omega) h20
    obtain ⟨w, hw⟩ : ∃ w, n * own = w := ⟨_, rfl⟩
    rw [hw] at hmul ⊢
    have em : iw (((w / Nat.gcd w T : Nat) : Int) * (T : Int)) = iw (iw ((n : Int) * (own : Int)) * ((T / Nat.gcd w T : Nat) : Int)) := by
      rw [mulI, mulI, hw, iw_id (x := ((w : Nat) : Int)) (by omega) (by omega), mulI]
      congr 2
      have ew := Nat.div_mul_cancel (Nat.gcd_dvd_left w T)
      have ed := Nat.div_mul_cancel (Nat.gcd_dvd_right w T)
      generalize w / Nat.gcd w T = x at *
      generalize T / Nat.gcd w T = y at *
      generalize Nat.gcd w T = g at *
      have : x * T = w * y := by
        rw [← ew]
        have : x * T = x * (y * g) := by rw [ed]
        rw [this]; grind
      exact this
    unfold chOut
    simp only [cond_true]
    rw [hz]
    simp only [Option.bind_some, Bool.not_true, cond_false]
    rw [ixk_in (by omega) (by omega), zSum_is k S (by omega) (by omega), M.sum, hTT, hrd]
    simp only [Option.bind_some]
    rw [em]
    simp only [bne_self_eq_false]
    by_cases hl0 : l = 0
    · subst hl0
      rw [hcw (by omega), Nat.gcd_self, Nat.div_self hpos]
      rfl
    · have e0 : (l == 0) = false := by simp; exact hl0
      rw [e0]; rfl
  · rw [if_neg hv]; rfl
theorem segCols_is (k : Nat) (hk : 1000000000000000 ≤ k) (S : List Int) (h8 : S.length ≤ 8) (m c : Int) (a b e d : List Int) (u : Bool) :
    segCols k ((S, m, c, ()), ()) (colsVal S m c) (a, b, S, e, d, u, ()) = some (.inl ()) := by
  unfold segCols
  by_cases hv : colsB S m c = true
  · have e1 : (colsVal S m c).1.2.2.1 = true := by unfold colsVal; rw [if_pos hv]; rfl
    rw [e1]
    unfold colsB at hv
    simp only [Bool.and_eq_true, decide_eq_true_eq] at hv
    obtain ⟨hn, hc⟩ := hv
    obtain ⟨n, rfl, M⟩ := num_is hn
    have hT := M.T
    have hpos := ch_pos _ _ M.le
    have hsm := ch_small n hT
    have hN := nats_len S
    simp only [cond_true]
    rw [implWays_is k hk S h8]
    unfold waysVal
    rw [hn, if_pos rfl, Int.toNat_natCast]
    simp only [Option.bind_some, Bool.not_true, cond_false]
    have hall : sumN (fun p => W ch st1 (nats' S) (n : Int) (p : Int)) (S.length + 1) = ch (total (nats' S)) n := by
      have h1 := W_sum ch st1 1 (by omega) (fun d => by rw [Nat.one_mul]; exact st1_le d) (nats' S) (n : Int) 41 (by have := M.le; omega)
      rw [V_ch, chI_nat] at h1
      rw [← h1]
      exact (sumN_more (by omega) fun p h2 _ => W1_far _ _ _ (by omega)).symm
    have hloop : laws_FnChancesNext_l25 k ((S, (n : Int), c, ()), ()) (a, b, S, e, d, u, ()) ((((ch (total (nats' S)) n : Nat) : Int), true, ()), ()) 0 0 = some (.inl (((ch (total (nats' S)) n : Nat) : Int), ())) := by
      unfold laws_FnChancesNext_l25
      conv => rhs; rw [← hall]
      refine iter_to (fun j => ((sumN (fun p => W ch st1 (nats' S) (n : Int) (p : Int)) j : Int), (j : Int), ())) (S.length + 1) _ (fun j hj rec => ?_) (fun rec => ?_) k (by omega)
      · have hv : colsVal S (n : Int) (j : Int) = chOut (W ch st1 (nats' S) (n : Int) (j : Int)) (ch (total (nats' S)) n) := by
          unfold colsVal colsB
          rw [hn, decide_eq_true (show (0 : Int) ≤ (j : Int) by omega), Int.toNat_natCast]; rfl
        have hle : sumN (fun p => W ch st1 (nats' S) (n : Int) (p : Int)) (j + 1) ≤ ch (total (nats' S)) n := by
          rw [← hall]; exact sumN_mono (by omega)
        obtain ⟨b1, b2, b3⟩ := backI (W ch st1 (nats' S) (n : Int) (j : Int)) (ch (total (nats' S)) n) 1 hpos (by omega)
        obtain ⟨_, _, _, b4⟩ := back (W ch st1 (nats' S) (n : Int) (j : Int)) (ch (total (nats' S)) n) 1 hpos
        rw [Nat.mul_one] at b2 b3 b4
        rw [Nat.mul_one] at b3 b4
        simp only [sumN] at hle
        simp only [laws_FnChancesNext_l25_b]
        rw [cond_dec, if_pos (by omega), implCols_is k hk S h8, hv]
        unfold chOut
        simp only [Option.bind_some, Bool.not_true, cond_false, b1, b2, b3, Bool.not_false, chk_t, met_inl, mulI, b4]
        rw [iw_id (x := ((W ch st1 (nats' S) (n : Int) (j : Int) : Nat) : Int)) (by omega) (by omega), iw_id (by omega) (by omega), iw_nat (by omega)]
        congr 2
      · simp only [laws_FnChancesNext_l25_b]
        rw [cond_dec, if_neg (by omega)]
    rw [hloop]
    simp only [met_inl, bne_self_eq_false, cond_false]
  · have e1 : (colsVal S m c).1.2.2.1 = false := by unfold colsVal; rw [if_neg hv]; rfl
    rw [e1]; rfl
theorem segTog_is (k : Nat) (hk : 1000000000000000 ≤ k) (A B : List Int) (hA : A.length ≤ 8) (hB : B.length ≤ 8) (a b e : List Int) (u : Bool) :
    segTog k (togVal A B) (a, b, e, A, B, u, ()) = some ((true, ()), ()) := by
  unfold segTog
  simp only [implTog_is k hk B A hB hA, togVal_comm B A]
  unfold togVal
  by_cases hv : togB A B = true
  · rw [if_pos hv]
    unfold togB at hv
    simp only [Bool.and_eq_true, decide_eq_true_eq] at hv
    obtain ⟨hf, hg, hl⟩ := hv
    have F := few_is hf
    have G := few_is hg
    have h2 := (few_sum F).2
    have h4 := (few_sum G).2
    have p1 := (good_sum F.toGood).2.2
    have p2 := (good_sum G.toGood).2.2
    have hm : total (nats' A) * total (nats' B) ≤ 40 * 40 := Nat.mul_le_mul h2 h4
    have hz := zLow_is k (dotN A B A.length) (total (nats' A) * total (nats' B)) (by omega) (Nat.mul_pos p1 p2)
    unfold chOut
    simp only [cond_true, Option.bind_some]
    rw [hz]
    simp
  · rw [if_neg hv]; rfl

theorem bst_mem (w : List Int → Nat) : ∀ (L : List (List Int)) (b : Bst), (bst w b L).1 = b.1 ∨ (bst w b L).1 ∈ L
  | [], b => .inl rfl
  | x :: L, b => by
    have e : bst w b (x :: L) = bst w (stepB w b x) L := rfl
    rw [e]
    rcases bst_mem w L (stepB w b x) with h | h
    · rw [h]
      unfold stepB
      split
      · exact .inr (by simp)
      · exact .inl rfl
    · exact .inr (List.mem_cons_of_mem _ h)
theorem lik_len {S : List Int} (h8 : S.length ≤ 8) (m : Int) : (likVal S m).1.1.length ≤ 20 := by
  unfold likVal
  split
  · rename_i h
    unfold likB at h
    simp only [Bool.and_eq_true] at h
    obtain ⟨n, rfl, M⟩ := num_is h.1
    show (bestD S _).length ≤ 20
    unfold bestD
    rcases bst_mem (wy S) (enum (nats' S) ((n : Int).toNat)) ([], 0) with e | e
    · rw [e]; exact Nat.zero_le _
    · have := (mem_is M.F.inS e).1.len
      omega
  · exact Nat.zero_le _
theorem next_one (S D : List Int) (h : (nextVal S D).1.2.2.1 = true) : (chDraw S D).1.2.2.1 = true := by
  unfold nextVal at h
  unfold chDraw
  by_cases hv : (few S && isB S D) = true
  · rw [if_pos hv]; rfl
  · rw [if_neg hv] at h; cases h
theorem col_mean (S : List Int) (c m l : Int) (h : (chCol S c m l).1.2.2.1 = true) : (meanC S c m).1.2.2.1 = true := by
  unfold chCol at h
  unfold meanC
  by_cases hv : (num S m && (colB S c && decide (0 ≤ l))) = true
  · simp only [Bool.and_eq_true] at hv
    rw [hv.1, hv.2.1]; rfl
  · rw [if_neg hv] at h; cases h
theorem law2_is (k : Nat) (hk : 1000000000000000 ≤ k) (l : List Int) (h : ∀ x ∈ l, 0 ≤ x ∧ x ≤ 255) : law2_f k l = some ((true, ()), ()) := by
  unfold law2_f
  have q1 : ∃ S, spec_DrawMeanUntilPair_f k l = some ((S, ()), ()) ∧ Drawn S := by
    obtain ⟨S, e, d⟩ := drawAre_is k (by omega) l h
    exact ⟨S, by unfold spec_DrawMeanUntilPair_f; rw [e]; rfl, d⟩
  have q2 : ∃ S m, spec_DrawChanceFirstPairAt_f k l = some ((S, m, ()), ()) ∧ Drawn S := by
    obtain ⟨S, m, e, d⟩ := drawWays_is k (by omega) l h
    exact ⟨S, m, by unfold spec_DrawChanceFirstPairAt_f; rw [e]; rfl, d⟩
  have q3 : ∃ S m, spec_DrawLikeliestDraw_f k l = some ((S, m, ()), ()) ∧ Drawn S := by
    obtain ⟨S, m, e, d⟩ := drawWays_is k (by omega) l h
    exact ⟨S, m, by unfold spec_DrawLikeliestDraw_f; rw [e]; rfl, d⟩
  have q4 : ∃ S m p, spec_DrawChanceOfColours_f k l = some ((S, m, p, ()), ()) ∧ Drawn S := by
    obtain ⟨S, m, p, e, d⟩ := drawOf_is k (by omega) l h
    exact ⟨S, m, p, by unfold spec_DrawChanceOfColours_f; rw [e]; rfl, d⟩
  have q5 : ∃ A B, spec_DrawChanceTogether_f k l = some ((A, B, ()), ()) ∧ Drawn A ∧ Drawn B := by
    obtain ⟨A, B, e, d1, d2⟩ := drawAdd_is k (by omega) l h
    exact ⟨A, B, by unfold spec_DrawChanceTogether_f; rw [e]; rfl, d1, d2⟩
  obtain ⟨S1, e1, d1⟩ := q1
  obtain ⟨S2, m2, e2, d2⟩ := q2
  obtain ⟨S3, c3, m3, l3, e3, d3⟩ := drawColour_is k (by omega) l h
  obtain ⟨S4, m4, c4, e4, d4⟩ := q4
  obtain ⟨S5, m5, e5, d5⟩ := q3
  obtain ⟨A, B, e6, d6, d7⟩ := q5
  simp only [e1, e2, e3, e4, e5, e6, Option.bind_some, implMean_is k hk S1 d1.2, specMean_is k hk S1 d1.2, implFirst_is k hk S2 d2.2, specFirst_is k hk S2 d2.2, implCol_is k hk S3 d3.2, specCol_is k hk S3 d3.2,
    implMeanC_is k hk S3 d3.2, specMeanC_is k hk S3 d3.2, implCols_is k hk S4 d4.2, specCols_is k hk S4 d4.2, implLik_is k hk S5 d5.2, specLik_is k hk S5 d5.2, implTog_is k hk A B d6.2 d7.2, specTog_is k hk A B d6.2 d7.2,
    zSame_is k (by omega) _ (lik_len d5.2 m5), beq_self_eq_true, bne_self_eq_false, Bool.not_true, cond_false]
  refine met_go (S1, S3, S4, A, B, false, ()) ?_ ?_
  · cases hc : (chCol S3 c3 m3 l3).1.2.2.1 with
    | false => rfl
    | true => rw [col_mean _ _ _ _ hc]; rfl
  · simp only [cond_false]
    refine met_go () (segMean_is k hk S1 d1.2 S3 S4 A B false) ?_
    refine met_go (false, ()) (segFirst_is k hk S2 m2) ?_
    simp only [cond_false]
    refine met_go () (segCol_is k hk S3 d3.2 c3 m3 l3 S1 S4 A B false) ?_
    refine met_go () (segCols_is k hk S4 d4.2 m4 c4 S1 S3 A B false) ?_
    have := segTog_is k hk A B d6.2 d7.2 S1 S3 S4 false
    unfold segTog at this
    simpa only [implTog_is k hk B A d7.2 d6.2] using this
theorem law_FnChancesNext (k : Nat) (hk : 1000000000000000 ≤ k) (l0 l1 : List Int) (h0 : ∀ x ∈ l0, 0 ≤ x ∧ x ≤ 255) (h1 : ∀ x ∈ l1, 0 ≤ x ∧ x ≤ 255) : laws_FnChancesNext_f k l0 l1 = some ((true, ()), ()) := by
  unfold laws_FnChancesNext_f
  obtain ⟨b, eb⟩ := big_is k l0 l1
  obtain ⟨S, D, ed, d1, d2, d3⟩ := drawIs_is k (by omega) l0 h0
  have ed' : spec_DrawChanceNextPair_f k l0 = some ((S, D, ()), ()) := by unfold spec_DrawChanceNextPair_f; rw [ed]; rfl
  rw [eb]
  simp only [Option.bind_some]
  cases b with
  | true => rfl
  | false =>
    simp only [cond_false, ed', Option.bind_some, implNext_is k hk S D d1.2 d3, specNext_is k hk S D d1.2 d3, implChDraw_is k hk S D d1.2 d3, specChDraw_is k hk S D d1.2 d3, beq_self_eq_true, bne_self_eq_false, Bool.not_true]
    refine met_go (D, false, ()) ?_ ?_
    · cases hc : (nextVal S D).1.2.2.1 with
      | false => rfl
      | true => rw [next_one _ _ hc]; rfl
    · simp only [cond_false]
      refine met_go () (segNext_is k hk S D d1.2 d3 false) ?_
      refine met_go () (segDraw_is k hk S D d1.2 d3 false) ?_
      exact law2_is k hk l1 h1
theorem pure_FnChancesNext : Law laws_FnChancesNext_f := fun l0 l1 _ h0 _ h1 => ⟨1000000000000000, law_FnChancesNext 1000000000000000 (Nat.le_refl _) l0 l1 (byte_in h0) (byte_in h1)⟩

end Go.Proofs.YtfaoajlicmggjaaV.Law
