/- The law FnLaundryBaskets as a plain statement of plain functions: it answers true, whatever comes in. No condition. -/
import Derived.Test.YtjdglbkjdfidoaaGreatDoorVQFnLaundryBasketsx1
namespace Go.Proofs.YtjdglbkjdfidoaaGreatDoorV.Law
set_option linter.unusedVariables false
set_option linter.unusedSimpArgs false
open Go.Proofs.YtjdglbkjdfidoaaGreatDoorV
/-! What is told of baskets. -/
def cs (l : List Int) : Nat → Nat
  | 0 => 0
  | n + 1 => cs l n + l.count (n : Int)
theorem cs_cons (x : Int) (l : List Int) : ∀ n : Nat, cs (x :: l) n = cs l n + if 0 ≤ x ∧ x < n then 1 else 0
  | 0 => by
    have : ¬ (0 ≤ x ∧ x < ((0 : Nat) : Int)) := by omega
    rw [if_neg this]; rfl
  | n + 1 => by
    have ih := cs_cons x l n
    simp only [cs]
    rw [ih, List.count_cons]
    by_cases h : x = (n : Int)
    · rw [show (x == (n : Int)) = true by simpa using h, if_neg (by omega), if_pos rfl, if_pos (by omega)]; omega
    · rw [show (x == (n : Int)) = false by simpa using h]
      by_cases h2 : 0 ≤ x ∧ x < (n : Int)
      · rw [if_pos h2, if_neg (by simp), if_pos (by omega)]; omega
      · rw [if_neg h2, if_neg (by simp), if_neg (by omega)]; omega
theorem cs_len {n : Nat} : ∀ {l : List Int}, (∀ x ∈ l, 0 ≤ x ∧ x < n) → cs l n = l.length
  | [], _ => by
    have : ∀ m, cs [] m = 0 := fun m => by induction m with
      | zero => rfl
      | succ m ih => simp [cs, ih]
    simp [this]
  | x :: l, h => by
    rw [cs_cons, if_pos (h x (by simp)), cs_len fun y hy => h y (by simp [hy])]; rfl
theorem okC_low {n : Nat} {l : List Int} (h : okC n l = true) : ∀ x ∈ l, 0 ≤ x ∧ x < n := fun x hx => ⟨(okC_iff.1 h x hx).1, (okC_iff.1 h x hx).2.1⟩
theorem okC_cnt {n : Nat} {l : List Int} (h : okC n l = true) (x : Int) : l.count x ≤ 2 := by
  by_cases hx : x ∈ l
  · exact (okC_iff.1 h x hx).2.2
  · rw [List.count_eq_zero.2 hx]; omega
theorem okC_mk {n : Nat} {l : List Int} (h1 : ∀ x ∈ l, 0 ≤ x ∧ x < n) (h2 : ∀ x, l.count x ≤ 2) : okC n l = true := okC_iff.2 fun x hx => ⟨(h1 x hx).1, (h1 x hx).2, h2 x⟩
theorem parts_is {n : Nat} {l : List Int} (h : ∀ x, l.count x ≤ 2) : ∀ m, (selN (cntP l 2) m).length + (selN (cntP l 1) m).length + (selN (cntP l 0) m).length = m ∧ 2 * (selN (cntP l 2) m).length + (selN (cntP l 1) m).length = cs l m
  | 0 => ⟨rfl, rfl⟩
  | m + 1 => by
    obtain ⟨h1, h2⟩ := parts_is (n := n) h m
    have hc := h (m : Int)
    have e : ∀ v : Nat, l.count (m : Int) = v → cntP l 2 m = decide (v = 2) ∧ cntP l 1 m = decide (v = 1) ∧ cntP l 0 m = decide (v = 0) := fun v hv => by
      unfold cntP
      rw [hv]
      exact ⟨decide_eq_decide.2 (by omega), decide_eq_decide.2 (by omega), decide_eq_decide.2 (by omega)⟩
    obtain ⟨e2, e1, e0⟩ := e _ rfl
    simp only [selN, cs]
    rw [e2, e1, e0]
    have h3 : l.count (m : Int) = 0 ∨ l.count (m : Int) = 1 ∨ l.count (m : Int) = 2 := by omega
    rcases h3 with h3 | h3 | h3 <;> rw [h3] <;> simp <;> omega
theorem wi_mem {n : Nat} {l : List Int} {m : Int} {i : Nat} (hi : i < n) : ((i : Int) ∈ wiV (n : Int) l m) ↔ ((l.count (i : Int) : Nat) : Int) = m := by
  unfold wiV
  rw [Int.toNat_natCast, selN_mem]
  unfold cntP
  constructor
  · rintro ⟨j, e, _, h⟩
    obtain rfl : i = j := by omega
    exact of_decide_eq_true h
  · intro h
    exact ⟨i, rfl, hi, decide_eq_true h⟩
/-! ### The basket of counts -/
theorem bask_cnt (c : List Int) (i : Nat) : ∀ n, (bask c n).count (i : Int) = if i < n then (rd c (i : Int)).toNat else 0
  | 0 => rfl
  | n + 1 => by
    unfold bask
    rw [List.count_append, bask_cnt c i n]
    by_cases h : i = n
    · subst h
      rw [if_neg (by omega), if_pos (by omega), List.count_replicate_self]; omega
    · rw [List.count_eq_zero.2 (fun hm => h (by have := List.eq_of_mem_replicate hm; omega))]
      by_cases h2 : i < n
      · rw [if_pos h2, if_pos (by omega)]; rfl
      · rw [if_neg h2, if_neg (by omega)]
theorem bask_mem (c : List Int) : ∀ (n : Nat) (x : Int), x ∈ bask c n → 0 ≤ x ∧ x < n
  | 0, _, h => by cases h
  | n + 1, x, h => by
    unfold bask at h
    rcases List.mem_append.1 h with h | h
    · have := bask_mem c n x h; omega
    · rw [List.eq_of_mem_replicate h]; omega
theorem bask_ok {c : List Int} {n : Nat} (hc : ∀ i : Nat, rd c (i : Int) ≤ 2) : okC n (bask c n) = true := okC_mk (bask_mem c n) fun x => by
  by_cases hx : 0 ≤ x
  · obtain ⟨i, rfl⟩ : ∃ i : Nat, x = (i : Int) := ⟨x.toNat, by omega⟩
    rw [bask_cnt]
    have := hc i
    split <;> omega
  · rw [List.count_eq_zero.2 fun hm => hx (bask_mem c n x hm).1]; omega
theorem up1_rep {a : List Int} {x : Int} (h : up1 (· ≤ ·) a) (hx : ∀ y ∈ a, y ≤ x) : ∀ m, up1 (· ≤ ·) (a ++ List.replicate m x)
  | 0 => by simpa using h
  | m + 1 => by
    rw [List.replicate_succ', ← List.append_assoc]
    refine up1_snoc (up1_rep h hx m) fun y hy => ?_
    rcases List.mem_append.1 hy with hy | hy
    · exact hx y hy
    · rw [List.eq_of_mem_replicate hy]; exact Int.le_refl _
theorem bask_up (c : List Int) : ∀ n, up1 (· ≤ ·) (bask c n)
  | 0 => fun i hi => (by simp [bask] at hi)
  | n + 1 => up1_rep (bask_up c n) (fun y hy => by have := bask_mem c n y hy; omega) _
theorem bask_srt (c : List Int) (n : Nat) : srtB (bask c n) = true := decide_eq_true (bask_up c n)
theorem bask_bas {c : List Int} {n : Nat} (hc : ∀ i : Nat, rd c (i : Int) ≤ 2) : bas n (bask c n) = true := by
  unfold bas
  rw [bask_ok hc, bask_srt]; rfl
theorem bask_congr {c d : List Int} : ∀ {n : Nat}, (∀ i : Nat, i < n → rd c (i : Int) = rd d (i : Int)) → bask c n = bask d n
  | 0, _ => rfl
  | n + 1, h => by unfold bask; rw [h n (by omega), bask_congr fun i hi => h i (by omega)]
theorem bask_cnts_len {n : Nat} {l : List Int} (h : ∀ x ∈ l, 0 ≤ x ∧ x < n) : (bask (cnts n l) n).length = l.length := by
  have key : ∀ m, m ≤ n → (bask (cnts n l) m).length = cs l m := by
    intro m
    induction m with
    | zero => intro _; rfl
    | succ m ih =>
      intro hm
      simp only [bask, cs, List.length_append, List.length_replicate]
      rw [ih (by omega), cnts_rd n l m (by omega)]
      rfl
  rw [key n (Nat.le_refl _), cs_len h]
theorem bask_inv_len {n : Nat} {l : List Int} (h : okC n l = true) : (bask (invC n l) n).length + l.length = 2 * n := by
  have key : ∀ m, m ≤ n → (bask (invC n l) m).length + cs l m = 2 * m := by
    intro m
    induction m with
    | zero => intro _; rfl
    | succ m ih =>
      intro hm
      have := okC_cnt h (m : Int)
      simp only [bask, cs, List.length_append, List.length_replicate]
      rw [invC_rd n l m (by omega)]
      have := ih (by omega)
      omega
  have := key n (Nat.le_refl _)
  rwa [cs_len (okC_low h)] at this
theorem inv_cnt {n : Nat} {l : List Int} (i : Nat) (hi : i < n) : (bask (invC n l) n).count (i : Int) = 2 - l.count (i : Int) := by
  rw [bask_cnt, if_pos hi, invC_rd n l i hi]; omega
/-- What is lost and what is there are all. -/
theorem all_back {n : Nat} {l : List Int} (h : okC n l = true) : okC n (l ++ bask (invC n l) n) = true ∧ bask (cnts n (l ++ bask (invC n l) n)) n = bask (invC n []) n := by
  have hc : ∀ i : Nat, i < n → (l ++ bask (invC n l) n).count (i : Int) = 2 := fun i hi => by
    have := okC_cnt h (i : Int)
    rw [List.count_append, inv_cnt i hi]; omega
  refine ⟨okC_mk (fun x hx => ?_) (fun x => ?_), bask_congr fun i hi => ?_⟩
  · rcases List.mem_append.1 hx with hx | hx
    · exact okC_low h x hx
    · exact bask_mem _ _ x hx
  · by_cases hx : 0 ≤ x ∧ x < n
    · obtain ⟨i, rfl⟩ : ∃ i : Nat, x = (i : Int) := ⟨x.toNat, by omega⟩
      rw [hc i (by omega)]; omega
    · rw [List.count_eq_zero.2]
      · omega
      · intro hm
        rcases List.mem_append.1 hm with hm | hm
        · exact hx (okC_low h x hm)
        · exact hx (bask_mem _ _ x hm)
  · rw [cnts_rd n _ i hi, hc i hi, invC_rd n _ i hi]; rfl
theorem inv_wi {n : Nat} {l : List Int} (h : okC n l = true) : (wiV (n : Int) (bask (invC n l) n) 2).length = zeros n l := by
  unfold wiV zeros
  rw [Int.toNat_natCast, selN_congr]
  intro i hi
  unfold cntP
  rw [inv_cnt i hi]
  have := okC_cnt h (i : Int)
  exact decide_eq_decide.2 (by omega)
theorem joi_comm (p : Int) (a b : List Int) : joiV p b a = joiV p a b := by
  unfold joiV
  have h1 : okC p.toNat (b ++ a) = okC p.toNat (a ++ b) := by
    rw [Bool.eq_iff_iff, okC_iff, okC_iff]
    simp only [List.mem_append, List.count_append]
    constructor <;> intro h x hx
    · have := h x hx.symm; omega
    · have := h x hx.symm; omega
  have h2 : cnts p.toNat (b ++ a) = cnts p.toNat (a ++ b) := by
    unfold cnts
    apply List.map_congr_left
    intro i _
    rw [List.count_append, List.count_append, Nat.add_comm]
  rw [h1, h2]
  cases (pr p && bas p.toNat a) <;> cases (pr p && bas p.toNat b) <;> simp

/-! The law FnLaundryBaskets. -/
theorem zSameW_is (k : Nat) (a b : List Int) (hk : a.length < k) (hl : a.length ≤ 100000) : laws_zSame_f k a b = some ((decide (a = b), ()), ()) := by
  unfold laws_zSame_f
  by_cases h0 : a.length = b.length
  · rw [show (((List.length a : Nat) : Int) != ((List.length b : Nat) : Int)) = false by simp [h0], cond_false]
    unfold laws_zSame_l1
    rw [show ((0 : Int), ()) = (fun j : Nat => ((j : Int), ())) 0 from rfl, all_up (fun j : Nat => ((j : Int), ())) (fun j => a[j]? = b[j]?) a.length (some (.inl ())) (some (.inr ((false, ()), ()))) (fun j hj hQ rec => ?_) (fun j hj hQ rec => ?_) (fun rec => ?_) k hk]
    · by_cases h : a = b
      · rw [decide_eq_true h, if_pos (fun i _ => by rw [h])]; rfl
      · rw [decide_eq_false h, if_neg]
        · rfl
        · intro h2
          refine h (List.ext_getElem? fun i => ?_)
          rcases Nat.lt_or_ge i a.length with hi | hi
          · exact h2 i hi
          · rw [List.getElem?_eq_none hi, List.getElem?_eq_none (by omega)]
    · rw [List.getElem?_eq_getElem hj, List.getElem?_eq_getElem (by omega)] at hQ
      have hQ := Option.some.inj hQ
      simp only [laws_zSame_l1_b]
      rw [cond_dec, if_pos (by omega), ixk_in (by omega) (by omega), ixk_in (by omega) (by omega), rd_nat a j hj, rd_nat b j (by omega), hQ, iw_nat (by omega), bne_self_eq_false]; rfl
    · rw [List.getElem?_eq_getElem hj, List.getElem?_eq_getElem (by omega)] at hQ
      simp only [laws_zSame_l1_b]
      rw [cond_dec, if_pos (by omega), ixk_in (by omega) (by omega), ixk_in (by omega) (by omega), rd_nat a j hj, rd_nat b j (by omega), show (a[j] != b[j]) = true by simpa using hQ]; rfl
    · simp only [laws_zSame_l1_b]
      rw [cond_dec, if_neg (by omega)]
  · rw [show (((List.length a : Nat) : Int) != ((List.length b : Nat) : Int)) = true by simp; omega, cond_true, decide_eq_false (fun e => h0 (by rw [e]))]
theorem zSameW_self (k : Nat) (a : List Int) (hk : a.length < k) (hl : a.length ≤ 100000) : laws_zSame_f k a a = some ((true, ()), ()) := by rw [zSameW_is k a a hk hl, decide_eq_true rfl]
theorem met_goK {α β : Type} {o : Option (β ⊕ α)} {K : β → Option α} {r : Option α} (v : β) (h : o = some (.inl v)) (h2 : K v = r) : met o K = r := by rw [h]; exact h2
theorem with_len (p : Int) (l : List Int) (m : Int) : (withV p l m).1.1.length ≤ 20 := by
  unfold withV
  split
  · rename_i h
    rw [Bool.and_eq_true] at h
    obtain ⟨n, rfl, h1, h2⟩ := pr_nat h.1
    have := selN_len (cntP l m) n
    show (wiV (n : Int) l m).length ≤ 20
    unfold wiV
    rw [Int.toNat_natCast]; omega
  · simp
theorem aft_len (p : Int) (l : List Int) : (aftV p l).1.1.length ≤ 40 := by
  unfold aftV
  split
  · rename_i h
    rw [Bool.and_eq_true] at h
    obtain ⟨n, rfl, h1, h2⟩ := pr_nat h.1
    have := bask_len (invC n l) 2 (invC_le n l) n
    show (bask (invC (Int.toNat n) l) (Int.toNat n)).length ≤ 40
    rw [Int.toNat_natCast]; omega
  · simp
theorem joi_len (p : Int) (a b : List Int) : (joiV p a b).1.1.length ≤ 40 := by
  unfold joiV
  split
  · rename_i h
    simp only [Bool.and_eq_true] at h
    obtain ⟨n, rfl, h1, h2⟩ := pr_nat h.1.1
    have := bask_len (cnts n (a ++ b)) 2 (cnts_le h.2.2) n
    show (bask (cnts (Int.toNat n) (a ++ b)) (Int.toNat n)).length ≤ 40
    rw [Int.toNat_natCast]; omega
  · simp
theorem com_len (p : Int) (l : List Int) (hl : l.length ≤ 200) : (comV p l).1.1.length ≤ 201 := by
  unfold comV
  split
  · show (comL p.toNat l (l.length + 1)).length ≤ 201
    rw [comL_len]; omega
  · simp
theorem pb_len {s : ByteArray} (hs : s.size ≤ 78) : (pbV s).1.1.length ≤ 79 := by
  have hcl := count_le_size 46 s
  have hlen := splL_len 46 s.data.toList
  unfold pbV
  split
  · simp
  · split
    · show ((splL 46 s.data.toList).map rdR).length ≤ 79
      rw [List.length_map]; omega
    · simp
/-- How often a pair stands there. -/
theorem law_l4 (k : Nat) (p : Int) (b : List Int) (x : Int) (hk : b.length < k) (hl : b.length ≤ 1000) : laws_FnLaundryBaskets_l4 k ((p, b, ()), ()) x 0 0 = some (.inl (((b.count x : Nat) : Int), ())) := by
  unfold laws_FnLaundryBaskets_l4
  rw [show ((0 : Int), (0 : Int), ()) = (fun j : Nat => ((((b.take j).count x : Nat) : Int), (j : Int), ())) 0 from by simp]
  refine iter_to (fun j : Nat => ((((b.take j).count x : Nat) : Int), (j : Int), ())) b.length _ (fun j hj rec => ?_) (fun rec => ?_) k hk
  · have hc := count_take_succ b j hj x
    have hle : (b.take j).count x ≤ j := Nat.le_trans List.count_le_length (by simp; omega)
    simp only [laws_FnLaundryBaskets_l4_b]
    rw [cond_dec, if_pos (by omega), ixk_in (by omega) (by omega), rd_nat b j hj, hc, iw_nat (by omega), iw_nat (by omega)]
    by_cases h : b[j] = x
    · rw [show (b[j] == x) = true by simpa using h, if_pos h]; rfl
    · rw [show (b[j] == x) = false by simpa using h, if_neg h]; rfl
  · simp only [laws_FnLaundryBaskets_l4_b]
    rw [cond_dec, if_neg (by omega), List.take_length]
theorem law_l3 (k n : Nat) (b : List Int) (hk : 1000 ≤ k) (hn : n ≤ 20) (hl : b.length ≤ 100) (b1 b2 b3 : Bool) (h2 : ∀ x, b.count x ≤ 2) : laws_FnLaundryBaskets_l3 k (((n : Int), b, ()), ()) ((wiV (n : Int) b 2, b1, ()), ()) ((wiV (n : Int) b 1, b2, ()), ()) ((wiV (n : Int) b 0, b3, ()), ()) 0 = some (.inl ()) := by
  have hw : ∀ m, (wiV (n : Int) b m).length ≤ 20 := fun m => by
    have := selN_len (cntP b m) n
    unfold wiV
    rw [Int.toNat_natCast]; omega
  unfold laws_FnLaundryBaskets_l3
  rw [show ((0 : Int), ()) = (fun j : Nat => ((j : Int), ())) 0 from rfl]
  refine iter_to (fun j : Nat => ((j : Int), ())) n _ (fun j hj rec => ?_) (fun rec => ?_) k (by omega)
  · have e : ∀ m : Int, decide ((j : Int) ∈ wiV (n : Int) b m) = (((b.count (j : Int) : Nat) : Int) == m) := fun m => by
      rw [beq_dec]; exact decide_eq_decide.2 (wi_mem hj)
    simp only [laws_FnLaundryBaskets_l3_b]
    rw [cond_dec, if_pos (by omega), law_l4 k (n : Int) b (j : Int) (by omega) (by omega), met_inl, zHas_is k _ _ (by have := hw 2; omega) (by have := hw 2; omega), zHas_is k _ _ (by have := hw 1; omega) (by have := hw 1; omega), zHas_is k _ _ (by have := hw 0; omega) (by have := hw 0; omega), iw_nat (by omega)]
    simp only [Option.bind_some, e, beq_self_eq_true, Bool.not_true, cond_false, met_inl]
  · simp only [laws_FnLaundryBaskets_l3_b]
    rw [cond_dec, if_neg (by omega)]
theorem law_l15 (k n : Nat) (p : Int) (l : List Int) (hk : 1000 ≤ k) (hn : n ≤ 20) (hl : l.length ≤ 100) (hok : okC n l = true) (b : Bool) : laws_FnLaundryBaskets_l15 k ((p, l, ()), ()) ((comL n l (l.length + 1), b, ()), ()) 1 = some (.inl ()) := by
  unfold laws_FnLaundryBaskets_l15
  rw [show ((1 : Int), ()) = (fun j : Nat => (((j + 1 : Nat) : Int), ())) 0 from rfl]
  refine iter_to (fun j : Nat => (((j + 1 : Nat) : Int), ())) l.length _ (fun j hj rec => ?_) (fun rec => ?_) k (by omega)
  · obtain ⟨h0, h1, _⟩ := okC_iff.1 hok l[j] (List.getElem_mem hj)
    obtain ⟨x, hx⟩ : ∃ x : Nat, l[j] = (x : Int) := ⟨l[j].toNat, by omega⟩
    have hz := zeros_step (n := n) hj (by omega) hx
    have hzl := zeros_le n (l.take j)
    have hzl2 := zeros_le n (l.take (j + 1))
    have hcl := comL_len n l (l.length + 1)
    have i1 : iw (((j + 1 : Nat) : Int) - 1) = (j : Int) := by rw [iw_id] <;> omega
    simp only [laws_FnLaundryBaskets_l15_b]
    rw [cond_dec, if_pos (by omega), i1, ixk_in (by omega) (by omega), ixk_in (by omega) (by omega), ixk_in (by omega) (by omega), ixk_in (by omega) (by omega), ixk_in (by omega) (by omega), ixk_in (by omega) (by omega), chk_dec (by omega), chk_dec (by omega), ixk_in (by omega) (by omega), comL_rd n l _ (j + 1) (by omega), comL_rd n l _ j (by omega), rd_nat l j hj, hx, Int.toNat_natCast, zHas_is k _ _ (by simp; omega) (by simp; omega), iw_nat (by omega)]
    rw [iw_id (x := ((zeros n (List.take j l) : Nat) : Int) - 1) (by omega) (by omega), cond_dec, cond_dec]
    by_cases hm : (x : Int) ∈ l.take j
    · rw [if_pos hm] at hz
      rw [if_neg (by omega), if_neg (by omega), decide_eq_true hm, show ((((zeros n (List.take (j + 1) l) : Nat) : Int)) == ((zeros n (List.take j l) : Nat) : Int)) = true by simp; omega]
      rfl
    · rw [if_neg hm] at hz
      rw [if_neg (by omega), if_neg (by omega), decide_eq_false hm, show ((((zeros n (List.take (j + 1) l) : Nat) : Int)) == ((zeros n (List.take j l) : Nat) : Int)) = false by simp; omega]
      rfl
  · have hcl := comL_len n l (l.length + 1)
    simp only [laws_FnLaundryBaskets_l15_b]
    rw [cond_dec, if_neg (by omega)]

theorem withV_ok (p : Int) (b : List Int) (m : Int) : (withV p b m).1.2.1 = (pr p && bas p.toNat b) := by
  unfold withV
  by_cases h : (pr p && bas p.toNat b) = true
  · rw [if_pos h, h]
  · rw [if_neg h, Bool.eq_false_iff.2 h]
theorem isBV_ok (p : Int) (b : List Int) : (isBV p b).1.2.1 = pr p ∧ (isBV p b).1.1 = (pr p && bas p.toNat b) := by
  unfold isBV
  by_cases h : pr p = true
  · rw [if_pos h, h]; exact ⟨rfl, rfl⟩
  · rw [if_neg h, Bool.eq_false_iff.2 h]; exact ⟨rfl, rfl⟩
theorem comV_ok (p : Int) (l : List Int) : (comV p l).1.2.1 = (aftV p l).1.2.1 := by
  unfold comV aftV
  by_cases h : (pr p && okC p.toNat l) = true
  · rw [if_pos h, if_pos h]
  · rw [if_neg h, if_neg h]
theorem okC_nil (n : Nat) : okC n [] = true := rfl
theorem bne_not {x y : Int} (h : x = y) : (x != y) = false := by simp [h]
theorem pure_FnLaundryBaskets : Law laws_FnLaundryBaskets_f := fun l0 l1 h0 w0 h1 w1 => ⟨3000, by
  have hk : 1000 ≤ 3000 := by omega
  unfold laws_FnLaundryBaskets_f
  obtain ⟨bg, eb⟩ := big_is 3000 l0 l1
  rw [eb]
  cases bg with
  | true => rfl
  | false =>
  simp only [Option.bind_some, cond_false]
  obtain ⟨p, b, e1, hb, hbl, hp, _⟩ := drawCI_is 3000 (by omega) l0 (byte_in w0)
  obtain ⟨q, l, e2, hl, hll, hq, _⟩ := drawCA_is 3000 (by omega) l1 (byte_in w1)
  obtain ⟨t, a, c, e3, ha, hc, hal, hcl, ht, _⟩ := drawJB_is 3000 hk l1 (byte_in w1)
  obtain ⟨x, e4, hx, hxl⟩ := drawBT_is 3000 (by omega) l1 (byte_in w1)
  obtain ⟨s, e5, hs⟩ := drawPB_is 3000 hk l1 (byte_in w1)
  rw [e1]
  simp only [Option.bind_some]
  rw [implCIn_is 3000 p b hk (by omega), specCIn_is 3000 p b hk (by omega), implSIn_is 3000 p b hk (by omega), specSIn_is 3000 p b hk (by omega), implGF_is 3000 p b hk (by omega), specGF_is 3000 p b hk (by omega), implIsB_is 3000 p b hk (by omega), specIsB_is 3000 p b hk (by omega)]
  simp only [Option.bind_some]
  refine met_goK (false, ()) ?_ ?_
  · have h2 := with_len p b 2
    have h1 := with_len p b 1
    have h0 := with_len p b 0
    rw [zSameW_self 3000 _ (by omega) (by omega), zSameW_self 3000 _ (by omega) (by omega), zSameW_self 3000 _ (by omega) (by omega), (isBV_ok p b).1, (isBV_ok p b).2, withV_ok, withV_ok, withV_ok]
    cases pr p <;> cases bas p.toNat b <;> rfl
  simp only [cond_false]
  refine met_goK () ?_ ?_
  · rw [withV_ok]
    cases hok : (pr p && bas p.toNat b) with
    | false => rfl
    | true =>
      have h' := hok
      rw [Bool.and_eq_true] at h'
      obtain ⟨n, rfl, hn1, hn2⟩ := pr_nat h'.1
      have hbs := h'.2
      rw [Int.toNat_natCast] at hbs
      have hoc : okC n b = true := by unfold bas at hbs; rw [Bool.and_eq_true] at hbs; exact hbs.1
      have eW : ∀ m, withV (n : Int) b m = ((wiV (n : Int) b m, true, ()), ()) := fun m => by unfold withV; rw [if_pos hok]
      have hw : ∀ m, (wiV (n : Int) b m).length ≤ 20 := fun m => by have := with_len (n : Int) b m; rw [eW] at this; exact this
      have eP := parts_is (n := n) (okC_cnt hoc) n
      rw [cs_len (okC_low hoc)] at eP
      have eP : (wiV (n : Int) b 2).length + (wiV (n : Int) b 1).length + (wiV (n : Int) b 0).length = n ∧ 2 * (wiV (n : Int) b 2).length + (wiV (n : Int) b 1).length = b.length := by
        unfold wiV; rw [Int.toNat_natCast]; exact eP
      rw [eW, eW, eW, cond_true]
      dsimp only
      refine met_goK (false, ()) ?_ ?_
      · rw [zRises_is 3000 _ (by have := hw 2; omega) (by have := hw 2; omega), zRises_is 3000 _ (by have := hw 1; omega) (by have := hw 1; omega), zRises_is 3000 _ (by have := hw 0; omega) (by have := hw 0; omega)]
        have er : ∀ m, risB (wiV (n : Int) b m) = true := fun m => selN_ris _ _
        simp only [Option.bind_some, er, Bool.not_true, cond_false]
        rw [iw_id (x := ((wiV (n : Int) b 2).length : Int) + ((wiV (n : Int) b 1).length : Int)) (by omega) (by omega), iw_id (by omega) (by omega), iw_id (x := 2 * ((wiV (n : Int) b 2).length : Int)) (by omega) (by omega), iw_id (by omega) (by omega), bne_not (by omega), cond_false, bne_not (by omega)]
      simp only [cond_false]
      rw [law_l3 3000 n b hk hn2 (by omega) true true true (okC_cnt hoc), met_inl, implBA_is 3000 (n : Int) [] hk (by simp), implBA_is 3000 (n : Int) b hk (by omega)]
      have eA : aftV (n : Int) b = ((bask (invC n b) n, true, ()), ()) := by
        unfold aftV; rw [h'.1, Int.toNat_natCast, hoc]; rfl
      have eN : aftV (n : Int) [] = ((bask (invC n []) n, true, ()), ()) := by
        unfold aftV; rw [h'.1, Int.toNat_natCast, okC_nil]; rfl
      have hA := aft_len (n : Int) b
      have hN := aft_len (n : Int) []
      rw [eA] at hA
      rw [eN] at hN
      have hA : (bask (invC n b) n).length ≤ 40 := hA
      have hN : (bask (invC n []) n).length ≤ 40 := hN
      rw [eA, eN]
      simp only [Option.bind_some]
      rw [implJB_is 3000 (n : Int) b (bask (invC n b) n) hk (by omega) (by omega)]
      have hab := all_back hoc
      have eJ : joiV (n : Int) b (bask (invC n b) n) = ((bask (invC n []) n, true, ()), ()) := by
        unfold joiV
        rw [h'.1, Int.toNat_natCast, hbs, bask_bas (invC_le n b), hab.1, hab.2]; rfl
      rw [eJ]
      simp only [Option.bind_some, Bool.not_true, cond_false]
      have h2n := bask_inv_len (n := n) (l := []) (okC_nil n)
      simp only [List.length_nil, Nat.add_zero] at h2n
      rw [iw_id (by omega) (by omega), bne_not (by omega), cond_false, zSameW_self 3000 _ (by omega) (by omega)]
      rfl
  rw [e2]
  simp only [Option.bind_some]
  rw [implCA_is 3000 q l hk (by omega), specCA_is 3000 q l hk (by omega), implBA_is 3000 q l hk (by omega), specBA_is 3000 q l hk (by omega)]
  simp only [Option.bind_some]
  rw [e3]
  simp only [Option.bind_some]
  rw [implJB_is 3000 t a c hk (by omega) (by omega), specJB_is 3000 t a c hk (by omega) (by omega)]
  simp only [Option.bind_some]
  rw [e4]
  simp only [Option.bind_some]
  rw [implBT_is 3000 hk x (by omega), specBT_is 3000 hk x (by omega)]
  simp only [Option.bind_some]
  rw [e5]
  simp only [Option.bind_some]
  rw [implPB_is 3000 (by omega) s (by omega), specPB_is 3000 (by omega) s (by omega)]
  simp only [Option.bind_some]
  have hA := aft_len q l
  have hC := com_len q l (by omega)
  have hJ := joi_len t a c
  have hP := pb_len (s := s) (by omega)
  refine met_goK (false, ()) ?_ ?_
  · rw [zSameW_self 3000 _ (by omega) (by omega), zSameW_self 3000 _ (by omega) (by omega), zSameW_self 3000 _ (by omega) (by omega), zSameW_self 3000 _ (by omega) (by omega), comV_ok]
    simp
  simp only [cond_false]
  refine met_goK () ?_ ?_
  · rw [comV_ok]
    cases hok : (pr q && okC q.toNat l) with
    | false =>
      have : (aftV q l).1.2.1 = false := by unfold aftV; rw [hok]; rfl
      rw [this]; rfl
    | true =>
      have h' := hok
      rw [Bool.and_eq_true] at h'
      obtain ⟨n, rfl, hn1, hn2⟩ := pr_nat h'.1
      have hoc := h'.2
      rw [Int.toNat_natCast] at hoc
      have eA : aftV (n : Int) l = ((bask (invC n l) n, true, ()), ()) := by
        unfold aftV; rw [hok]; rfl
      have eC : comV (n : Int) l = ((comL n l (l.length + 1), true, ()), ()) := by
        unfold comV; rw [hok]; rfl
      rw [eA] at hA
      have hA : (bask (invC n l) n).length ≤ 40 := hA
      rw [eA, eC]
      simp only [cond_true]
      rw [implCIn_is 3000 (n : Int) _ hk (by omega)]
      have hcl := comL_len n l (l.length + 1)
      have eW : withV (n : Int) (bask (invC n l) n) 2 = ((wiV (n : Int) (bask (invC n l) n) 2, true, ()), ()) := by
        unfold withV; rw [h'.1, Int.toNat_natCast, bask_bas (invC_le n l)]; rfl
      have hz := inv_wi hoc
      have hbl := bask_inv_len hoc
      rw [eW]
      simp only [Option.bind_some, Bool.not_true, cond_false]
      refine met_goK (false, ()) ?_ ?_
      · have c0 := comL_rd n l (l.length + 1) 0 (by omega)
        have c1 := comL_rd n l (l.length + 1) l.length (by omega)
        rw [List.take_zero, zeros_nil] at c0
        rw [List.take_length] at c1
        rw [iw_id (x := ((List.length l : Nat) : Int) + 1) (by omega) (by omega), bne_not (by omega), cond_false, chk_dec (by omega), show (0 : Int) = ((0 : Nat) : Int) from rfl, c0, bne_not rfl, cond_false, ixk_in (by omega) (by omega), c1, bne_not (by omega), cond_false, iw_id (by omega) (by omega), iw_id (by omega) (by omega), bne_not (by omega)]
      simp only [cond_false]
      rw [law_l15 3000 n (n : Int) l hk hn2 (by omega) hoc true]
      rfl
  refine met_goK () ?_ ?_
  · cases hok : ((pr t && bas t.toNat a) && ((pr t && bas t.toNat c) && okC t.toNat (a ++ c))) with
    | false =>
      have : (joiV t a c).1.2.1 = false := by unfold joiV; rw [hok]; rfl
      rw [this]; rfl
    | true =>
      have h' := hok
      simp only [Bool.and_eq_true] at h'
      have eJ : joiV t a c = ((bask (cnts t.toNat (a ++ c)) t.toNat, true, ()), ()) := by unfold joiV; rw [hok]; rfl
      have hl2 := bask_cnts_len (n := t.toNat) (l := a ++ c) (okC_low h'.2.2)
      rw [List.length_append] at hl2
      have eJ2 := joi_comm t a c
      rw [eJ] at eJ2 hJ
      have hJ : (bask (cnts t.toNat (a ++ c)) t.toNat).length ≤ 40 := hJ
      rw [eJ]
      simp only [cond_true]
      rw [implJB_is 3000 t c a hk (by omega) (by omega), eJ2]
      simp only [Option.bind_some, Bool.not_true, cond_false]
      rw [iw_id (by omega) (by omega), bne_not (by omega), cond_false, zSameW_self 3000 _ (by omega) (by omega)]
      rfl
  refine met_goK () ?_ ?_
  · cases hok : bas 20 x with
    | false =>
      have : (btV x).1.2.1 = false := by unfold btV; rw [hok]; rfl
      rw [this]; rfl
    | true =>
      have eB : btV x = ((btx x, true, ()), ()) := by unfold btV; rw [hok]; rfl
      have hsz := btx_size (l := x)
      rw [eB]
      simp only [cond_true]
      rw [implPB_is 3000 (by omega) (btx x) (by omega), pb_bt hok]
      simp only [Option.bind_some, Bool.not_true, cond_false]
      rw [zSameW_self 3000 _ (by omega) (by omega)]
      rfl
  cases hok : (pbV s).1.2.1 with
  | false => rfl
  | true =>
    obtain ⟨hb1, hb2⟩ := bt_pb hok
    simp only [cond_true]
    rw [implBT_is 3000 hk _ (by omega)]
    have eB : btV (pbV s).1.1 = ((s, true, ()), ()) := by unfold btV; rw [hb1, if_pos rfl, hb2]
    rw [eB]
    simp⟩

end Go.Proofs.YtjdglbkjdfidoaaGreatDoorV.Law
