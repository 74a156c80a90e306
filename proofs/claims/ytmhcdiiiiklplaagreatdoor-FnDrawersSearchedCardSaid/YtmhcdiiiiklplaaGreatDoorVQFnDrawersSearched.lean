/- The law FnDrawersSearched as a plain statement of plain functions: it answers true, whatever comes in. No condition. -/
import Derived.Test.YtmhcdiiiiklplaaGreatDoorVQFnDrawersSearchedx1
namespace Go.Proofs.YtmhcdiiiiklplaaGreatDoorV.Law
set_option linter.unusedVariables false
set_option linter.unusedSimpArgs false
open Go.Proofs.YtmhcdiiiiklplaaGreatDoorV
/-! ### Texts of drawers -/
theorem index_none (c : UInt8) (l : List UInt8) (h : c ∉ l) : Lib.index l [c] = -1 := by
  induction l with
  | nil => simp [Lib.index]
  | cons b l ih => rw [index_cons, if_neg (fun e => h (by simp [e])), ih (fun x => h (by simp [x]))]; rfl
theorem index_at (c : UInt8) (a r : List UInt8) (h : c ∉ a) : Lib.index (a ++ c :: r) [c] = (a.length : Int) := by
  induction a with
  | nil => rw [List.nil_append, index_cons, if_pos rfl]; rfl
  | cons b a ih =>
    rw [List.cons_append, index_cons, if_neg (fun e => h (by simp [e])), ih (fun x => h (by simp [x]))]
    have : ((a.length : Int) == -1) = false := by rw [beq_eq_false_iff_ne]; omega
    rw [this]
    simp
theorem count_lib (c : UInt8) : ∀ (n : Nat) (l : List UInt8), l.length ≤ n → Lib.count l [c] = l.count c := by
  intro n
  induction n with
  | zero =>
    intro l h
    obtain rfl : l = [] := List.eq_nil_of_length_eq_zero (by omega)
    rw [Lib.count_miss (index_none c [] (by simp))]; rfl
  | succ n ih =>
    intro l h
    rcases at_byte c l with hn | ⟨a, r, ha, rfl⟩
    · rw [Lib.count_miss (index_none c l hn), List.count_eq_zero.2 hn]
    · rw [Lib.count_hit (by simp) (index_at c a r ha)]
      have hd : (a ++ c :: r).drop (a.length + [c].length) = r := by
        rw [show a ++ c :: r = (a ++ [c]) ++ r by simp, show a.length + [c].length = (a ++ [c]).length by simp, List.drop_left]
      have hl : a.length + r.length + 1 ≤ n + 1 := by simpa [Nat.add_assoc] using h
      rw [hd, ih r (by omega), List.count_append, List.count_eq_zero.2 ha, List.count_cons_self]
      omega
theorem split_is (k : Nat) (s : ByteArray) (c : UInt8) (h : s.size ≤ 1000) : strings_Split_f k s (lit [c]) = some (((splL c s.data.toList).map lit, ()), ()) := by
  unfold strings_Split_f splitL
  rw [splitB_is, lit_size, decide_eq_true (show s.size < 4294967281 by omega), splitK_is c s.data.toList]
  · rfl
  · show _ ≤ Lib.count s.data.toList (lit [c]).data.toList
    rw [lit_list, count_lib c _ _ (Nat.le_refl _)]
    exact Nat.le_refl _
theorem jnL_snoc (c : UInt8) : ∀ (ws : List (List UInt8)) (w : List UInt8), jnL c (ws ++ [w]) = if ws = [] then w else jnL c ws ++ c :: w
  | [], w => rfl
  | [v], w => by simp [jnL]
  | v :: u :: ws, w => by
    have ih := jnL_snoc c (u :: ws) w
    rw [if_neg (by simp)] at ih ⊢
    show v ++ c :: jnL c ((u :: ws) ++ [w]) = _
    rw [ih]
    simp [jnL]
theorem join_jn (c : UInt8) : ∀ ws : List (List UInt8), Lib.join ws [c] = jnL c ws
  | [] => rfl
  | [n] => by simp [Lib.join, jnL, List.intercalate]
  | n :: m :: N => by
    have ih := join_jn c (m :: N)
    simp only [Lib.join, List.intercalate] at ih ⊢
    rw [List.intersperse_cons_cons] at *
    simp only [List.flatten_cons, jnL] at ih ⊢
    rw [ih]
    simp
theorem spl_jn (c : UInt8) : ∀ ws : List (List UInt8), ws ≠ [] → (∀ w ∈ ws, c ∉ w) → splL c (jnL c ws) = ws
  | [], h, _ => absurd rfl h
  | [w], _, h => splL_not c w (h w (by simp))
  | w :: v :: ws, _, h => by
    show splL c (w ++ c :: jnL c (v :: ws)) = _
    rw [splL_at c w _ (h w (by simp)), spl_jn c (v :: ws) (by simp) (fun x hx => h x (by simp [hx]))]
def pd (d : Int × Int) : List UInt8 := dig d.1.toNat ++ 47 :: dig d.2.toNat
def dtl (S : DT) : List UInt8 := jnL 59 (S.map pd)
theorem pd_len (d : Int × Int) : (pd d).length ≤ 5 := by
  have h1 := dig_len d.1.toNat
  have h2 := dig_len d.2.toNat
  unfold pd
  simp only [List.length_append, List.length_cons]; omega
theorem dtl_len (S : DT) : (dtl S).length ≤ 6 * S.length := by
  unfold dtl
  by_cases h : S = []
  · subst h; exact Nat.zero_le _
  · have := jnL_len 59 5 (S.map pd) (fun w hw => by obtain ⟨d, _, rfl⟩ := List.mem_map.1 hw; exact pd_len d) (by simpa using h)
    rw [List.length_map] at this
    omega
theorem dtl_snoc (S : DT) (d : Int × Int) : dtl (S ++ [d]) = if S = [] then pd d else dtl S ++ 59 :: pd d := by
  unfold dtl
  rw [List.map_append, List.map_cons, List.map_nil, jnL_snoc]
  by_cases h : S = []
  · rw [if_pos h, if_pos (by rw [h]; rfl)]
  · rw [if_neg h, if_neg (by simpa using h)]
theorem pd_at (S : DT) (j : Nat) (h : j < S.length) : pd S[j] = dig (wt S j) ++ 47 :: dig (mi S j) := by
  unfold pd wt mi
  rw [rdG_nat _ S j h]
def dxVal (S : DT) : (ByteArray × Bool × Unit) × Unit := if goodD S = true then ((lit (dtl S), true, ()), ()) else ((ByteArray.empty, false, ()), ())
theorem dwText_is (k : Nat) (hk : 100 ≤ k) {S : DT} (h : InD S) (hl : S.length ≤ 60) : spec_dwText_f k S = some ((lit (dtl S), ()), ()) := by
  unfold spec_dwText_f
  have h : spec_dwText_l1 k S ByteArray.empty 0 = some (.inl (lit (dtl S), ())) := by
    unfold spec_dwText_l1
    rw [lit_nil]
    refine iter_to (fun j => (lit (dtl (S.take j)), (j : Int), ())) S.length _ (fun j hj rec => ?_) (fun rec => ?_) k (by omega)
    · have ta : S.take (j + 1) = S.take j ++ [S[j]] := List.take_succ_eq_append_getElem hj
      obtain ⟨q1, q2, q3, _⟩ := inD_at h j
      have dl := dtl_len (S.take j)
      rw [List.length_take] at dl
      have d1 := dig_len (wt S j)
      have d2 := dig_len (mi S j)
      simp only [spec_dwText_l1_b]
      rw [cond_dec, if_pos (by omega), ixk_in (by omega) (by omega), q1, ta, dtl_snoc, pd_at S j hj, cond_dec]
      by_cases hz : (j : Int) > 0
      · have hne : ¬ S.take j = [] := by intro e; have := congrArg List.length e; rw [List.length_take, List.length_nil] at this; omega
        rw [if_pos hz, if_neg hne, chk_dec (by rw [lit_size, lit_size]; simp; omega)]
        simp only [met_inl]
        rw [l1Num_is k (by omega) _ (by omega)]
        simp only [Option.bind_some]
        rw [chk_dec (by rw [lit_size, lit_size]; simp; omega), l1Num_is k (by omega) _ (by omega)]
        simp only [Option.bind_some]
        rw [lit_app, lit_app, lit_app, chk_dec (by rw [lit_size, lit_size]; simp; omega), chk_dec (by rw [lit_size, lit_size]; simp; omega), lit_app, iw_nat (by omega)]
        simp
      · have hne : S.take j = [] := by rw [show j = 0 by omega]; rfl
        rw [if_neg hz, if_pos hne, hne]
        simp only [met_inl]
        rw [l1Num_is k (by omega) _ (by omega)]
        simp only [Option.bind_some]
        rw [chk_dec (by rw [lit_size, lit_size]; simp; omega), l1Num_is k (by omega) _ (by omega)]
        simp only [Option.bind_some]
        rw [lit_app, lit_app, chk_dec (by rw [lit_size, lit_size]; simp; omega), chk_dec (by rw [lit_size, lit_size]; simp [dtl, jnL]; omega), lit_app, iw_nat (by omega)]
        simp [dtl, jnL]
    · simp only [spec_dwText_l1_b]
      rw [cond_dec, if_neg (by omega), List.take_of_length_le (by omega)]
  rw [h]; rfl
section
variable (k : Nat) (hk : 100 ≤ k) (S : DT) (hl : S.length ≤ 20)
include hk hl
theorem specDX_is : spec_DrawersText_f k S = some (dxVal S) := by
  unfold spec_DrawersText_f dxVal
  rw [dwGood_is k hk S (by omega)]
  cases hg : goodD S with
  | false => rfl
  | true =>
    simp only [Option.bind_some, Bool.not_true, cond_false]
    rw [dwText_is k hk (goodD_is hg).inD (by omega)]
    rfl
theorem implDX_is : impl_DrawersText_f k S = some (dxVal S) := by
  unfold impl_DrawersText_f dxVal
  rw [areD_is k hk S (by omega)]
  cases hg : goodD S with
  | false => rfl
  | true =>
    have h := (goodD_is hg).inD
    simp only [Option.bind_some, Bool.not_true, cond_false]
    have e : impl_DrawersText_l1 k S [] 0 = some (.inl (S.map (fun d => lit (pd d)), ())) := by
      unfold impl_DrawersText_l1
      refine iter_to (fun j => ((S.take j).map (fun d => lit (pd d)), (j : Int), ())) S.length _ (fun j hj rec => ?_) (fun rec => ?_) k (by omega)
      · obtain ⟨q1, q2, q3, _⟩ := inD_at h j
        have d1 := dig_len (wt S j)
        have d2 := dig_len (mi S j)
        simp only [impl_DrawersText_l1_b]
        rw [cond_dec, if_pos (by omega), ixk_in (by omega) (by omega), q1, itoa_is k _ (by omega)]
        simp only [Option.bind_some]
        rw [chk_dec (by rw [lit_size, lit_size]; simp; omega), itoa_is k _ (by omega)]
        simp only [Option.bind_some]
        rw [lit_app, chk_dec (by rw [lit_size, lit_size]; simp; omega), chk_dec (by simp; omega), lit_app, iw_nat (by omega), List.take_succ_eq_append_getElem hj, List.map_append, List.map_cons, List.map_nil, pd_at S j hj]
        simp
      · simp only [impl_DrawersText_l1_b]
        rw [cond_dec, if_neg (by omega), List.take_of_length_le (by omega)]
    rw [e]
    simp only [met_inl]
    unfold strings_Join_f joinL
    have e2 : (S.map (fun d => lit (pd d))).map (fun b => b.data.toList) = S.map pd := by
      rw [List.map_map]; exact List.map_congr_left fun n _ => rfl
    have hd := dtl_len S
    rw [show (fun (x : ByteArray) => x.data.toList) = (fun b : ByteArray => b.data.toList) from rfl, e2, lit_list, join_jn, show jnL 59 (S.map pd) = dtl S from rfl, decide_eq_true (by omega), decide_eq_true (by rw [List.length_map]; omega)]
    rfl
end
/-! #### .. read -/
def okP (w : List UInt8) : Bool := (numR (Lib.cut w [47]).1 2).2 && (numR (Lib.cut w [47]).2.1 2).2
def vP (w : List UInt8) : Int × Int := ((numR (Lib.cut w [47]).1 2).1, (numR (Lib.cut w [47]).2.1 2).1)
def twoD (w : List UInt8) : Bool := decide ((splL 47 w).length = 2)
def vS (w : List UInt8) : Int × Int := (rdR ((splL 47 w).getD 0 []), rdR ((splL 47 w).getD 1 []))
theorem dig_notD (n : Nat) (h : n < 100) : (47 : UInt8) ∉ dig n ∧ (59 : UInt8) ∉ dig n := by
  have : ∀ n : Nat, n < 100 → (47 : UInt8) ∉ dig n ∧ (59 : UInt8) ∉ dig n := by decide +kernel
  exact this n h
theorem pd_ok (d : Int × Int) (h1 : 0 ≤ d.1 ∧ d.1 ≤ 99) (h2 : 0 ≤ d.2 ∧ d.2 ≤ 99) : okP (pd d) = true ∧ vP (pd d) = d ∧ twoD (pd d) = true ∧ vS (pd d) = d ∧ (59 : UInt8) ∉ pd d := by
  obtain ⟨a, b⟩ := d
  simp only at h1 h2
  obtain ⟨n, rfl⟩ : ∃ n : Nat, a = (n : Int) := ⟨a.toNat, by omega⟩
  obtain ⟨m, rfl⟩ : ∃ m : Nat, b = (m : Int) := ⟨b.toNat, by omega⟩
  have hn := dig_notD n (by omega)
  have hm := dig_notD m (by omega)
  unfold pd
  simp only [Int.toNat_natCast]
  have ec := cut_at 47 (dig n) (dig m) hn.1
  have es := spl_pair 47 (dig n) (dig m) hn.1 hm.1
  unfold okP vP twoD vS
  rw [ec, es]
  simp only [numR_dig n (by omega), numR_dig m (by omega), List.getD_cons_zero, List.getD_cons_succ, rdR_dig n (by omega), rdR_dig m (by omega), Bool.and_true, List.length_cons, List.length_nil, true_and]
  refine ⟨rfl, ?_⟩
  simp [hn.2, hm.2]
theorem ok_pd (w : List UInt8) (h : okP w = true) : w = pd (vP w) ∧ (0 ≤ (vP w).1 ∧ (vP w).1 ≤ 99) ∧ (0 ≤ (vP w).2 ∧ (vP w).2 ≤ 99) := by
  unfold okP at h
  unfold vP
  rcases at_byte 47 w with hn | ⟨a, r, ha, rfl⟩
  · rw [cut_not 47 w hn] at h
    simp only [Bool.and_eq_true] at h
    have : (numR [] 2).2 = false := by decide
    rw [this] at h
    cases h.2
  · rw [cut_at 47 a r ha] at h ⊢
    simp only [Bool.and_eq_true] at h
    obtain ⟨n, n1, n2, n3⟩ := numR_num a h.1
    obtain ⟨m, m1, m2, m3⟩ := numR_num r h.2
    rw [n3, m3]
    refine ⟨?_, ⟨by simp only; omega, by simp only; omega⟩, ⟨by simp only; omega, by simp only; omega⟩⟩
    unfold pd
    simp only [Int.toNat_natCast]
    rw [n2, m2]
abbrev PDR := (DT × Unit) ⊕ ((DT × Bool × Unit) × Unit)
def ppRes (f : List UInt8 → Int × Int) (ws : List (List UInt8)) : Bool → Option PDR
  | true => some (.inl (ws.map f, ()))
  | false => some (.inr (([], false, ()), ()))
theorem implPD_loop (k : Nat) (hk : 2000 ≤ k) (ws : List (List UInt8)) (hw : ws.length ≤ 900) (hs : ∀ w ∈ ws, w.length ≤ 900) : impl_ParseDrawers_l1 k ((ws.map lit, ()), ()) [] (ws.map lit) 0 = ppRes vP ws (ws.all okP) := by
  unfold impl_ParseDrawers_l1
  refine iter_up (fun j => ((ws.take j).map vP, ws.map lit, (j : Int), ())) (fun j => ppRes vP ws ((ws.drop j).all okP)) ws.length (fun j hj => ?_) k 0 (Nat.zero_le _) (by omega)
  rcases Nat.lt_or_ge j ws.length with h1 | h1
  · have hwj := hs ws[j] (List.getElem_mem h1)
    have c1 : (Lib.cut ws[j] [47]).1.length ≤ 1000 ∧ (Lib.cut ws[j] [47]).2.1.length ≤ 1000 := by
      rcases at_byte 47 ws[j] with hn | ⟨a, r, ha, e⟩
      · rw [cut_not 47 _ hn]; simp; omega
      · rw [e] at hwj ⊢
        rw [cut_at 47 a r ha]
        simp only [List.length_append, List.length_cons] at hwj
        simp only
        omega
    have e1 := number_is k (lit (Lib.cut ws[j] [47]).1) 2 (by omega) (by omega) (by rw [lit_size]; exact c1.1)
    have e2 := number_is k (lit (Lib.cut ws[j] [47]).2.1) 2 (by omega) (by omega) (by rw [lit_size]; exact c1.2)
    rw [lit_list] at e1 e2
    rw [List.drop_eq_getElem_cons h1, List.all_cons]
    have step : ∀ rec : (DT × List ByteArray × Int × Unit) → Option PDR, impl_ParseDrawers_l1_b k ((ws.map lit, ()), ()) (fun x4 x19 x21 => rec (x4, x19, x21, ())) ((ws.take j).map vP) (ws.map lit) (j : Int) = if okP ws[j] = true then rec ((ws.take (j + 1)).map vP, ws.map lit, ((j + 1 : Nat) : Int), ()) else some (.inr (([], false, ()), ())) := fun rec => by
      simp only [impl_ParseDrawers_l1_b]
      rw [cond_dec, if_pos (by rw [List.length_map]; omega), ixk_in (by omega) (by rw [List.length_map]; omega), rdG_lit ws j h1, cut_is k _ 47 (by omega)]
      simp only [Option.bind_some]
      rw [show (2 : Int) = ((2 : Nat) : Int) from rfl, e1]
      simp only [Option.bind_some]
      rw [e2]
      simp only [Option.bind_some]
      unfold okP
      cases h1' : (numR (Lib.cut ws[j] [47]).1 2).2 with
      | false => rw [if_neg (by simp)]; rfl
      | true =>
        cases h2' : (numR (Lib.cut ws[j] [47]).2.1 2).2 with
        | false => rw [if_neg (by simp)]; rfl
        | true =>
          rw [show (true && true) = true from rfl, if_pos rfl]
          simp only [Bool.not_true, cond_false, met_inl]
          rw [chk_dec (by simp; omega), iw_nat (by omega), List.take_succ_eq_append_getElem h1, List.map_append]
          rfl
    cases ht : okP ws[j] with
    | true =>
      refine .inr ⟨h1, by rw [Bool.true_and], fun rec => ?_⟩
      show impl_ParseDrawers_l1_b k _ _ _ _ _ = _
      rw [step, ht, if_pos rfl]
    | false =>
      refine .inl fun rec => ?_
      show impl_ParseDrawers_l1_b k _ _ _ _ _ = _
      rw [step, ht, if_neg (by simp)]
      rfl
  · refine .inl fun rec => ?_
    simp only [impl_ParseDrawers_l1_b]
    rw [cond_dec, if_neg (by rw [List.length_map]; omega), List.take_of_length_le (by omega), List.drop_eq_nil_of_le (by omega)]
    rfl
theorem specPD_loop (k : Nat) (hk : 2000 ≤ k) (ws : List (List UInt8)) (hw : ws.length ≤ 900) (hs : ∀ w ∈ ws, w.length ≤ 900) : spec_ParseDrawers_l1 k ((ws.map lit, ()), ()) [] (ws.map lit) 0 = ppRes vS ws (ws.all twoD) := by
  unfold spec_ParseDrawers_l1
  refine iter_up (fun j => ((ws.take j).map vS, ws.map lit, (j : Int), ())) (fun j => ppRes vS ws ((ws.drop j).all twoD)) ws.length (fun j hj => ?_) k 0 (Nat.zero_le _) (by omega)
  rcases Nat.lt_or_ge j ws.length with h1 | h1
  · have hwj := hs ws[j] (List.getElem_mem h1)
    have e := l1Split_is k hk 47 (lit ws[j]) (by rw [lit_size]; omega)
    rw [lit_list] at e
    rw [List.drop_eq_getElem_cons h1, List.all_cons]
    have step : ∀ rec : (DT × List ByteArray × Int × Unit) → Option PDR, spec_ParseDrawers_l1_b k ((ws.map lit, ()), ()) (fun x4 x12 x14 => rec (x4, x12, x14, ())) ((ws.take j).map vS) (ws.map lit) (j : Int) = if twoD ws[j] = true then rec ((ws.take (j + 1)).map vS, ws.map lit, ((j + 1 : Nat) : Int), ()) else some (.inr (([], false, ()), ())) := fun rec => by
      simp only [spec_ParseDrawers_l1_b]
      rw [cond_dec, if_pos (by rw [List.length_map]; omega), ixk_in (by omega) (by rw [List.length_map]; omega), rdG_lit ws j h1, show (47 : Int) = ((47 : UInt8).toNat : Int) from rfl, e]
      simp only [Option.bind_some, List.length_map, andX_same]
      by_cases ht : (splL 47 ws[j]).length = 2
      · rw [show twoD ws[j] = true from decide_eq_true ht, if_pos rfl, show ((((splL 47 ws[j]).length : Nat) : Int) != 2) = false by rw [ht]; rfl, cond_false, chk_dec (by omega), chk_dec (by omega), show (0 : Int) = ((0 : Nat) : Int) from rfl, rdG_litD _ 0 (by omega), l1Read_is k (by omega) _ (by rw [lit_size]; have := splL_mem_len 47 ws[j] 0 (by omega); omega), lit_list]
        simp only [Option.bind_some]
        rw [show (1 : Int) = ((1 : Nat) : Int) from rfl, rdG_litD _ 1 (by omega), l1Read_is k (by omega) _ (by rw [lit_size]; have := splL_mem_len 47 ws[j] 1 (by omega); omega), lit_list]
        simp only [Option.bind_some]
        rw [chk_dec (by simp; omega), show ((1 : Nat) : Int) = 1 from rfl, iw_nat (by omega), List.take_succ_eq_append_getElem h1, List.map_append]
        rfl
      · rw [show twoD ws[j] = false from decide_eq_false ht, if_neg (by simp), show ((((splL 47 ws[j]).length : Nat) : Int) != 2) = true by simp; omega]
        rfl
    cases ht : twoD ws[j] with
    | true =>
      refine .inr ⟨h1, by rw [Bool.true_and], fun rec => ?_⟩
      show spec_ParseDrawers_l1_b k _ _ _ _ _ = _
      rw [step, ht, if_pos rfl]
    | false =>
      refine .inl fun rec => ?_
      show spec_ParseDrawers_l1_b k _ _ _ _ _ = _
      rw [step, ht, if_neg (by simp)]
      rfl
  · refine .inl fun rec => ?_
    simp only [spec_ParseDrawers_l1_b]
    rw [cond_dec, if_neg (by rw [List.length_map]; omega), List.take_of_length_le (by omega), List.drop_eq_nil_of_le (by omega)]
    rfl
/-- What a text of drawers comes to: just where it is a text of some. -/
def DpOk (s : ByteArray) (v : (DT × Bool × Unit) × Unit) : Prop :=
  (v = (([], false, ()), ()) ∨ ∃ S, goodD S = true ∧ s = lit (dtl S) ∧ v = ((S, true, ()), ())) ∧
  (∀ S, goodD S = true → s = lit (dtl S) → v = ((S, true, ()), ()))
theorem DpOk.uniq {s : ByteArray} {v v' : (DT × Bool × Unit) × Unit} (h : DpOk s v) (h' : DpOk s v') : v = v' := by
  rcases h.1 with e | ⟨S, g, t, e⟩
  · rcases h'.1 with e' | ⟨S, g, t, e'⟩
    · rw [e, e']
    · rw [h.2 S g t, e']
  · rw [h'.2 S g t, e]
theorem dtl_key {S : DT} {s : ByteArray} (g : goodD S = true) (t : s = lit (dtl S)) : splL 59 s.data.toList = S.map pd ∧ (S.map pd).all okP = true ∧ (S.map pd).map vP = S ∧ (S.map pd).all twoD = true ∧ (S.map pd).map vS = S := by
  have G := goodD_is g
  have hd : ∀ d ∈ S, okP (pd d) = true ∧ vP (pd d) = d ∧ twoD (pd d) = true ∧ vS (pd d) = d ∧ (59 : UInt8) ∉ pd d := fun d hd => by
    have := G.inD d hd
    exact pd_ok d ⟨by omega, by omega⟩ ⟨by omega, by omega⟩
  refine ⟨?_, ?_, ?_, ?_, ?_⟩
  · rw [t, lit_list]
    refine spl_jn 59 _ ?_ ?_
    · intro e
      have h1 := congrArg List.length e
      have := G.l0
      rw [List.length_map, List.length_nil] at h1
      omega
    · intro w hw
      obtain ⟨d, h1, rfl⟩ := List.mem_map.1 hw
      exact (hd d h1).2.2.2.2
  · refine List.all_eq_true.2 fun w hw => ?_
    obtain ⟨d, h1, rfl⟩ := List.mem_map.1 hw
    exact (hd d h1).1
  · rw [List.map_map]
    exact Eq.trans (List.map_congr_left fun d h1 => (hd d h1).2.1) (List.map_id _)
  · refine List.all_eq_true.2 fun w hw => ?_
    obtain ⟨d, h1, rfl⟩ := List.mem_map.1 hw
    exact (hd d h1).2.2.1
  · rw [List.map_map]
    exact Eq.trans (List.map_congr_left fun d h1 => (hd d h1).2.2.2.1) (List.map_id _)
theorem implPD_is (k : Nat) (hk : 2000 ≤ k) (s : ByteArray) (hs : s.size ≤ 48) : ∃ v, impl_ParseDrawers_f k s = some v ∧ DpOk s v := by
  have hl := list_size s
  unfold impl_ParseDrawers_f
  rw [cond_dec, if_neg (by omega), split_is k s 59 (by omega)]
  simp only [Option.bind_some]
  have hcl := count_le_size 59 s
  have hlen := splL_len 59 s.data.toList
  have hsm := splL_small 59 s.data.toList
  have hj := jnL_spl 59 s.data.toList
  rw [implPD_loop k hk _ (by omega) (fun w hw => by have := hsm w hw; omega)]
  cases ha : (splL 59 s.data.toList).all okP with
  | false =>
    refine ⟨_, rfl, .inl rfl, fun S g t => ?_⟩
    obtain ⟨k1, k2, _⟩ := dtl_key g t
    rw [k1, k2] at ha; cases ha
  | true =>
    simp only [ppRes, met_inl]
    rw [areD_is k (by omega) _ (by rw [List.length_map]; omega)]
    cases hg : goodD ((splL 59 s.data.toList).map vP) with
    | false =>
      refine ⟨_, rfl, .inl rfl, fun S g t => ?_⟩
      obtain ⟨k1, _, k3, _⟩ := dtl_key g t
      rw [k1, k3, g] at hg; cases hg
    | true =>
      refine ⟨_, rfl, .inr ⟨_, hg, ?_, rfl⟩, fun S g t => ?_⟩
      · rw [← lit_of s, lit_list]
        congr 1
        refine Eq.trans hj.symm ?_
        unfold dtl
        rw [List.map_map]
        congr 1
        refine Eq.trans (List.map_id _).symm (List.map_congr_left fun w hw => ?_)
        exact (ok_pd w (List.all_eq_true.1 ha w hw)).1
      · obtain ⟨k1, _, k3, _⟩ := dtl_key g t
        show ((((splL 59 s.data.toList).map vP, true, ()), ()) : (DT × Bool × Unit) × Unit) = _
        rw [k1, k3]
theorem specPD_is (k : Nat) (hk : 2000 ≤ k) (s : ByteArray) (hs : s.size ≤ 48) : ∃ v, spec_ParseDrawers_f k s = some v ∧ DpOk s v := by
  have hl := list_size s
  unfold spec_ParseDrawers_f
  rw [cond_dec, if_neg (by omega), show (59 : Int) = ((59 : UInt8).toNat : Int) from rfl, l1Split_is k hk 59 s (by omega)]
  simp only [Option.bind_some]
  have hcl := count_le_size 59 s
  have hlen := splL_len 59 s.data.toList
  have hsm := splL_small 59 s.data.toList
  rw [specPD_loop k hk _ (by omega) (fun w hw => by have := hsm w hw; omega)]
  cases ha : (splL 59 s.data.toList).all twoD with
  | false =>
    refine ⟨_, rfl, .inl rfl, fun S g t => ?_⟩
    obtain ⟨k1, _, _, k2, _⟩ := dtl_key g t
    rw [k1, k2] at ha; cases ha
  | true =>
    simp only [ppRes, met_inl]
    rw [dwGood_is k (by omega) _ (by rw [List.length_map]; omega)]
    cases hg : goodD ((splL 59 s.data.toList).map vS) with
    | false =>
      refine ⟨_, rfl, .inl rfl, fun S g t => ?_⟩
      obtain ⟨k1, _, _, _, k3⟩ := dtl_key g t
      rw [k1, k3, g] at hg; cases hg
    | true =>
      have G := goodD_is hg
      have l8 := G.l8
      simp only [Option.bind_some, Bool.not_true, cond_false]
      rw [dwText_is k (by omega) G.inD (by omega)]
      simp only [Option.bind_some, met_inl, Go.ByteArray.toList_eq, lit_list]
      cases he : (dtl ((splL 59 s.data.toList).map vS) == s.data.toList) with
      | false =>
        refine ⟨_, rfl, .inl rfl, fun S g t => ?_⟩
        obtain ⟨k1, _, _, _, k3⟩ := dtl_key g t
        rw [k1, k3, t, lit_list] at he
        simp at he
      | true =>
        refine ⟨_, rfl, .inr ⟨_, hg, ?_, rfl⟩, fun S g t => ?_⟩
        · rw [beq_iff_eq.1 he, lit_of]
        · obtain ⟨k1, _, _, _, k3⟩ := dtl_key g t
          show ((((splL 59 s.data.toList).map vS, true, ()), ()) : (DT × Bool × Unit) × Unit) = _
          rw [k1, k3]
/-! #### Texts drawn -/
theorem drawPD_is (k : Nat) (hk : 100 ≤ k) (l : List Int) (h : ∀ x ∈ l, 0 ≤ x ∧ x ≤ 255) : ∃ s, spec_DrawParseDrawers_f k l = some ((s, ()), ()) ∧ s.size ≤ 40 := by
  unfold spec_DrawParseDrawers_f
  obtain ⟨S, c, e, h1, q, d, hl⟩ := dsure_is k hk (cur0 h) (by omega) 4 (by omega)
  rw [e]; simp only [Option.bind_some]
  rw [dwText_is k hk (fun x hx => by have := d x hx; omega) (by omega)]
  simp only [Option.bind_some]
  obtain ⟨b, c2, e2, h2, q2⟩ := one_is k h1 (by omega) 3
  rw [ceta, e2]
  simp only [Option.bind_some]
  have hb2 := dtl_len S
  cases b with
  | false => exact ⟨_, rfl, by rw [lit_size]; omega⟩
  | true =>
    obtain ⟨s', c', e3, l3⟩ := spoilt_is k hk h2 (by omega) (lit [48, 49, 50, 53, 47, 59, 120]) (lit (dtl S)) (by rw [lit_size]; decide) (by rw [lit_size]; decide) (by rw [lit_size]; omega)
    rw [lit_size] at l3
    simp only [cond_true]
    rw [ceta, e3]
    exact ⟨s', rfl, by omega⟩

noncomputable def sgMeanD (k : Nat) (y104 : (Int × Int × Bool × Unit) × Unit) (y118 : (Int × Int × Bool × Unit) × Unit) (y143 : (Int × Bool × Unit) × Unit) (j1 : DT × List Int × Bool × Unit) : Option (Unit ⊕ ((Bool × Unit) × Unit)) :=
  (cond y104.1.2.2.1 (met (laws_FnDrawersSearched_l2 k j1 0 0 0 0 0) (fun j4 => (Option.bind (impl_ChanceWithin_f k j1.1 j1.2.1 y143.1.1) (fun y282 => (met (cond (j4.1 != y143.1.1) (some (.inl (true, ()))) (Option.bind (laws_mIs_f k y104.1.1 y104.1.2.1 j4.2.1 j4.2.2.2.1) (fun y294 => (cond (!y294.1.1) (some (.inl (true, ()))) (Option.bind (laws_mIs_f k y118.1.1 y118.1.2.1 j4.2.2.1 j4.2.2.2.1) (fun y302 => (cond (!y302.1.1) (some (.inl (true, ()))) (cond (decide (y143.1.1 ≤ 1000)) (cond (!y282.1.2.2.1) (some (.inl (true, ()))) (cond (y282.1.1 != 1) (some (.inl (true, ()))) (some (.inl ((y282.1.2.1 != 1), ()))))) (some (.inl (false, ()))))))))))) (fun j5 => (cond j5.1 (some (.inr ((false, ()), ()))) (some (.inl ()))))))))) (some (.inl ())))
noncomputable def sgSwapD (k : Nat) (y323 : (DT × List Int × Int × Unit) × Unit) (y331 : (Int × Bool × Unit) × Unit) (j7 : DT × List Int × DT × List Int × DT × DT × DT × DT × Bool × Unit) : Option (Unit ⊕ ((Bool × Unit) × Unit)) :=
  (cond y331.1.2.1 (chk (decide (0 + List.length j7.2.1 ≤ 15637498706147)) (ixk (iw (y323.1.2.2.1 + 1)) (List.length j7.2.1) (ixk y323.1.2.2.1 (List.length j7.2.1) (ixk y323.1.2.2.1 (List.length j7.2.1) (ixk (iw (y323.1.2.2.1 + 1)) (List.length (setI j7.2.1 y323.1.2.2.1 (rd j7.2.1 (iw (y323.1.2.2.1 + 1))))) (met (laws_FnDrawersSearched_l8 k j7 (setI (setI j7.2.1 y323.1.2.2.1 (rd j7.2.1 (iw (y323.1.2.2.1 + 1)))) (iw (y323.1.2.2.1 + 1)) (rd j7.2.1 y323.1.2.2.1)) 0 0 0) (fun j10 => (cond ((iw (j10.2.1 - j10.1)) != y331.1.1) (some (.inr ((false, ()), ()))) (some (.inl ())))))))))) (some (.inl ())))
noncomputable def sgAfterD (k : Nat) (y343 : (DT × List Int × Int × Unit) × Unit) (y351 : (DT × Bool × Unit) × Unit) (j7 : DT × List Int × DT × List Int × DT × DT × DT × DT × Bool × Unit) : Option (Unit ⊕ ((Bool × Unit) × Unit)) :=
  (cond y351.1.2.1 (met (laws_FnDrawersSearched_l12 k y343 j7 0) (fun j14 => (some (.inl ())))) (some (.inl ())))
noncomputable def sgEmptyD (k : Nat) (y363 : (DT × Int × Unit) × Unit) (y369 : (DT × Bool × Unit) × Unit) (j7 : DT × List Int × DT × List Int × DT × DT × DT × DT × Bool × Unit) : Option (Unit ⊕ ((Bool × Unit) × Unit)) :=
  (cond y369.1.2.1 (Option.bind (impl_ChanceIn_f k j7.2.2.2.2.2.2.1 y363.1.2.1) (fun y610 => (met (cond (((List.length j7.2.2.2.2.2.2.1 : Nat) : Int) != ((List.length j7.2.2.2.2.2.1 : Nat) : Int)) (some (.inl (true, ()))) (cond (!y610.1.2.2.1) (some (.inl (true, ()))) (some (.inl ((y610.1.1 != 0), ()))))) (fun j16 => (cond j16.1 (some (.inr ((false, ()), ()))) (some (.inl ()))))))) (some (.inl ())))
noncomputable def sgTextD (k : Nat) (y394 : (ByteArray × Bool × Unit) × Unit) (j7 : DT × List Int × DT × List Int × DT × DT × DT × DT × Bool × Unit) : Option (Unit ⊕ ((Bool × Unit) × Unit)) :=
  (cond y394.1.2.1 (Option.bind (impl_ParseDrawers_f k y394.1.1) (fun y630 => (met (cond (!y630.1.2.1) (some (.inl (true, ()))) (Option.bind (laws_mDrawers_f k y630.1.1 j7.2.2.2.2.2.1) (fun y638 => (some (.inl ((!y638.1.1), ())))))) (fun j18 => (cond j18.1 (some (.inr ((false, ()), ()))) (some (.inl ()))))))) (some (.inl ())))
noncomputable def sgReadD (k : Nat) (y403 : (ByteArray × Unit) × Unit) (y406 : (DT × Bool × Unit) × Unit) (j7 : DT × List Int × DT × List Int × DT × DT × DT × DT × Bool × Unit) : Option (((Bool × Unit) × Unit)) :=
  (cond y406.1.2.1 (Option.bind (impl_DrawersText_f k j7.2.2.2.2.2.2.2.1) (fun y644 => (met (cond y644.1.2.1 (some (.inl ((y644.1.1.toList == y403.1.1.toList), ()))) (some (.inl (false, ())))) (fun j20 => (some ((j20.1, ()), ())))))) (some ((true, ()), ())))
noncomputable def law5_f (k : Nat) (p1 : List Int) : Option (((Bool × Unit) × Unit)) :=
  (Option.bind (spec_DrawSwapCost_f k p1) (fun y323 => (Option.bind (impl_SwapCost_f k y323.1.1 y323.1.2.1 y323.1.2.2.1) (fun y331 => (Option.bind (spec_SwapCost_f k y323.1.1 y323.1.2.1 y323.1.2.2.1) (fun y338 => (Option.bind (spec_DrawAfterSearch_f k p1) (fun y343 => (Option.bind (impl_AfterSearch_f k y343.1.1 y343.1.2.1 y343.1.2.2.1) (fun y351 => (Option.bind (spec_AfterSearch_f k y343.1.1 y343.1.2.1 y343.1.2.2.1) (fun y358 => (Option.bind (spec_DrawAfterEmpty_f k p1) (fun y363 => (Option.bind (impl_AfterEmpty_f k y363.1.1 y363.1.2.1) (fun y369 => (Option.bind (spec_AfterEmpty_f k y363.1.1 y363.1.2.1) (fun y375 => (Option.bind (impl_ChanceIn_f k y363.1.1 y363.1.2.1) (fun y381 => (Option.bind (spec_ChanceIn_f k y363.1.1 y363.1.2.1) (fun y388 => (Option.bind (impl_DrawersText_f k y363.1.1) (fun y394 => (Option.bind (spec_DrawersText_f k y363.1.1) (fun y399 => (Option.bind (spec_DrawParseDrawers_f k p1) (fun y403 => (Option.bind (impl_ParseDrawers_f k y403.1.1) (fun y406 => (Option.bind (spec_ParseDrawers_f k y403.1.1) (fun y411 => (met (cond (!(y331.1.2.1 == y338.1.2.1)) (some (.inl (y323.1.1, y323.1.2.1, y343.1.1, y343.1.2.1, y351.1.1, y363.1.1, y369.1.1, y406.1.1, true, ()))) (cond (y331.1.1 != y338.1.1) (some (.inl (y323.1.1, y323.1.2.1, y343.1.1, y343.1.2.1, y351.1.1, y363.1.1, y369.1.1, y406.1.1, true, ()))) (cond (!(y351.1.2.1 == y358.1.2.1)) (some (.inl (y323.1.1, y323.1.2.1, y343.1.1, y343.1.2.1, y351.1.1, y363.1.1, y369.1.1, y406.1.1, true, ()))) (Option.bind (laws_mDrawers_f k y351.1.1 y358.1.1) (fun y430 => (cond (!y430.1.1) (some (.inl (y323.1.1, y323.1.2.1, y343.1.1, y343.1.2.1, y351.1.1, y363.1.1, y369.1.1, y406.1.1, true, ()))) (cond (!(y369.1.2.1 == y375.1.2.1)) (some (.inl (y323.1.1, y323.1.2.1, y343.1.1, y343.1.2.1, y351.1.1, y363.1.1, y369.1.1, y406.1.1, true, ()))) (Option.bind (laws_mDrawers_f k y369.1.1 y375.1.1) (fun y441 => (cond (!y441.1.1) (some (.inl (y323.1.1, y323.1.2.1, y343.1.1, y343.1.2.1, y351.1.1, y363.1.1, y369.1.1, y406.1.1, true, ()))) (cond (!(y381.1.2.2.1 == y388.1.2.2.1)) (some (.inl (y323.1.1, y323.1.2.1, y343.1.1, y343.1.2.1, y351.1.1, y363.1.1, y369.1.1, y406.1.1, true, ()))) (cond (y381.1.1 != y388.1.1) (some (.inl (y323.1.1, y323.1.2.1, y343.1.1, y343.1.2.1, y351.1.1, y363.1.1, y369.1.1, y406.1.1, true, ()))) (cond (y381.1.2.1 != y388.1.2.1) (some (.inl (y323.1.1, y323.1.2.1, y343.1.1, y343.1.2.1, y351.1.1, y363.1.1, y369.1.1, y406.1.1, true, ()))) (cond (!(y394.1.2.1 == y399.1.2.1)) (some (.inl (y323.1.1, y323.1.2.1, y343.1.1, y343.1.2.1, y351.1.1, y363.1.1, y369.1.1, y406.1.1, true, ()))) (cond (!(y394.1.1.toList == y399.1.1.toList)) (some (.inl (y323.1.1, y323.1.2.1, y343.1.1, y343.1.2.1, y351.1.1, y363.1.1, y369.1.1, y406.1.1, true, ()))) (cond (!(y406.1.2.1 == y411.1.2.1)) (some (.inl (y323.1.1, y323.1.2.1, y343.1.1, y343.1.2.1, y351.1.1, y363.1.1, y369.1.1, y406.1.1, true, ()))) (Option.bind (laws_mDrawers_f k y406.1.1 y411.1.1) (fun y477 => (cond (!y477.1.1) (some (.inl (y323.1.1, y323.1.2.1, y343.1.1, y343.1.2.1, y351.1.1, y363.1.1, y369.1.1, y406.1.1, true, ()))) (cond y369.1.2.1 (cond (!y381.1.2.2.1) (some (.inl (y323.1.1, y323.1.2.1, y343.1.1, y343.1.2.1, y351.1.1, y363.1.1, y369.1.1, y406.1.1, true, ()))) (cond y381.1.2.2.1 (some (.inl (y323.1.1, y323.1.2.1, y343.1.1, y343.1.2.1, y351.1.1, y363.1.1, y369.1.1, y406.1.1, (y369.1.2.1 == (y381.1.1 == y381.1.2.1)), ()))) (some (.inl (y323.1.1, y323.1.2.1, y343.1.1, y343.1.2.1, y351.1.1, y363.1.1, y369.1.1, y406.1.1, false, ()))))) (cond y381.1.2.2.1 (some (.inl (y323.1.1, y323.1.2.1, y343.1.1, y343.1.2.1, y351.1.1, y363.1.1, y369.1.1, y406.1.1, (y369.1.2.1 == (y381.1.1 == y381.1.2.1)), ()))) (some (.inl (y323.1.1, y323.1.2.1, y343.1.1, y343.1.2.1, y351.1.1, y363.1.1, y369.1.1, y406.1.1, false, ())))))))))))))))))))))))) (fun j7 => (cond j7.2.2.2.2.2.2.2.2.1 (some ((false, ()), ())) (met (cond y331.1.2.1 (chk (decide (0 + List.length j7.2.1 ≤ 15637498706147)) (ixk (iw (y323.1.2.2.1 + 1)) (List.length j7.2.1) (ixk y323.1.2.2.1 (List.length j7.2.1) (ixk y323.1.2.2.1 (List.length j7.2.1) (ixk (iw (y323.1.2.2.1 + 1)) (List.length (setI j7.2.1 y323.1.2.2.1 (rd j7.2.1 (iw (y323.1.2.2.1 + 1))))) (met (laws_FnDrawersSearched_l8 k j7 (setI (setI j7.2.1 y323.1.2.2.1 (rd j7.2.1 (iw (y323.1.2.2.1 + 1)))) (iw (y323.1.2.2.1 + 1)) (rd j7.2.1 y323.1.2.2.1)) 0 0 0) (fun j10 => (cond ((iw (j10.2.1 - j10.1)) != y331.1.1) (some (.inr ((false, ()), ()))) (some (.inl ())))))))))) (some (.inl ()))) (fun j11 => (met (cond y351.1.2.1 (met (laws_FnDrawersSearched_l12 k y343 j7 0) (fun j14 => (some (.inl ())))) (some (.inl ()))) (fun j15 => (met (cond y369.1.2.1 (Option.bind (impl_ChanceIn_f k j7.2.2.2.2.2.2.1 y363.1.2.1) (fun y610 => (met (cond (((List.length j7.2.2.2.2.2.2.1 : Nat) : Int) != ((List.length j7.2.2.2.2.2.1 : Nat) : Int)) (some (.inl (true, ()))) (cond (!y610.1.2.2.1) (some (.inl (true, ()))) (some (.inl ((y610.1.1 != 0), ()))))) (fun j16 => (cond j16.1 (some (.inr ((false, ()), ()))) (some (.inl ()))))))) (some (.inl ()))) (fun j17 => (met (cond y394.1.2.1 (Option.bind (impl_ParseDrawers_f k y394.1.1) (fun y630 => (met (cond (!y630.1.2.1) (some (.inl (true, ()))) (Option.bind (laws_mDrawers_f k y630.1.1 j7.2.2.2.2.2.1) (fun y638 => (some (.inl ((!y638.1.1), ())))))) (fun j18 => (cond j18.1 (some (.inr ((false, ()), ()))) (some (.inl ()))))))) (some (.inl ()))) (fun j19 => (cond y406.1.2.1 (Option.bind (impl_DrawersText_f k j7.2.2.2.2.2.2.2.1) (fun y644 => (met (cond y644.1.2.1 (some (.inl ((y644.1.1.toList == y403.1.1.toList), ()))) (some (.inl (false, ())))) (fun j20 => (some ((j20.1, ()), ())))))) (some ((true, ()), ()))))))))))))))))))))))))))))))))))))))))))))))

theorem met_goG {α β : Type} {o : Option (β ⊕ α)} {K : β → Option α} {r : Option α} (v : β) (h : o = some (.inl v)) (h2 : K v = r) : met o K = r := by rw [h]; exact h2
theorem mDrawers_self (k : Nat) (hk : 100 ≤ k) (S : DT) (hS : S.length ≤ 60) : laws_mDrawers_f k S S = some ((true, ()), ()) := by
  unfold laws_mDrawers_f
  have h : laws_mDrawers_l1 k S S 0 = some (.inl ()) := by
    unfold laws_mDrawers_l1
    refine iter_to (fun j => ((j : Int), ())) S.length _ (fun j hj rec => ?_) (fun rec => ?_) k (by omega)
    · simp only [laws_mDrawers_l1_b]
      rw [cond_dec, if_pos (by omega), ixk_in (by omega) (by omega), ixk_in (by omega) (by omega), iw_nat (by omega)]
      simp
    · simp only [laws_mDrawers_l1_b]
      rw [cond_dec, if_neg (by omega)]
  rw [bne_self_eq_false, cond_false, h]; rfl
theorem mHas_is (k : Nat) (hk : 100 ≤ k) (l : List Int) (x : Int) (hl : l.length ≤ 60) : laws_mHas_f k l x = some ((decide (x ∈ l), ()), ()) := l1Has_is k hk l x hl
theorem mIs_is (k w d : Nat) (h : d < k) (hd : 0 < d) (hw : w ≤ 1000000) (hd' : d ≤ 1000000) : laws_mIs_f k ((w / Nat.gcd w d : Nat) : Int) ((d / Nat.gcd w d : Nat) : Int) (w : Int) (d : Int) = some ((true, ()), ()) := by
  have hg : 0 < Nat.gcd w d := Nat.gcd_pos_of_pos_right _ hd
  have q1 := Nat.div_le_self w (Nat.gcd w d)
  have q2 := Nat.div_le_self d (Nat.gcd w d)
  have q3 : 1 ≤ d / Nat.gcd w d := Nat.div_pos (Nat.le_of_dvd hd (Nat.gcd_dvd_right w d)) hg
  have hc : Nat.gcd (w / Nat.gcd w d) (d / Nat.gcd w d) = 1 := by
    have := Nat.gcd_div (Nat.gcd_dvd_left w d) (Nat.gcd_dvd_right w d)
    rw [this, Nat.div_self hg]
  have he : (w / Nat.gcd w d) * d = w * (d / Nat.gcd w d) := by
    obtain ⟨x, hx⟩ := Nat.gcd_dvd_left w d
    obtain ⟨y, hy⟩ := Nat.gcd_dvd_right w d
    generalize Nat.gcd w d = g at *
    subst hx; subst hy
    rw [Nat.mul_div_cancel_left x hg, Nat.mul_div_cancel_left y hg, Nat.mul_comm g y, Nat.mul_comm g x, ← Nat.mul_assoc, Nat.mul_assoc x g y, Nat.mul_comm g y, ← Nat.mul_assoc]
  unfold laws_mIs_f
  generalize w / Nat.gcd w d = x at q1 hc he ⊢
  generalize d / Nat.gcd w d = y at q2 q3 hc he ⊢
  have e : (iw ((x : Int) * (d : Int)) != iw ((w : Int) * (y : Int))) = false := by rw [mulN, mulN, he, bne_self_eq_false]
  rw [cond_dec, if_neg (by omega), cond_dec, if_neg (by omega), e]
  simp only [met_inl, cond_false]
  unfold laws_mIs_l2
  rw [gcd_loop (fun rec a => rfl) (fun rec a b hb => ?_) k _ _ (by omega), hc]
  · rfl
  · simp only [laws_mIs_l2_b]
    have : ((b : Int) == 0) = false := by simp; omega
    rw [cond_dec, if_pos (by omega), this]; rfl
/-! ### What is the mean -/
theorem sgMean_is (k : Nat) (hk : 2000 ≤ k) (S : DT) (O : List Int) (b : Bool) : sgMeanD k (msVal2 S O) (moVal S O) (maVal S) (S, O, b, ()) = some (.inl ()) := by
  unfold sgMeanD
  cases hb : isB2 S O with
  | false => unfold msVal2; rw [hb]; rfl
  | true =>
    obtain ⟨G, p⟩ := isB2_is hb
    have l8 := G.l8
    have len := p.len
    have hg : goodD S = true := by unfold isB2 at hb; simp only [Bool.and_eq_true] at hb; exact hb.1
    unfold msVal2 moVal maVal
    rw [hb, hg]
    simp only [if_true, chOut, cond_true]
    have hW := Wd_le k (by omega) G p
    have hT := tdsum_le k (by omega) G p S.length l8
    have hws : ∀ j, sumN (fun i => wt S (at' O i)) j ≤ 50 * j := sum_le (fun i => (inD_at G.inD (at' O i)).2.1)
    have h : laws_FnDrawersSearched_l2 k (S, O, b, ()) 0 0 0 0 0 = some (.inl (((Fm S O S.length : Nat) : Int), ((sumN (tdS S O) S.length : Nat) : Int), ((sumN (tdO S O) S.length : Nat) : Int), ((sumN (fun i => wt S (at' O i)) S.length : Nat) : Int), ())) := by
      unfold laws_FnDrawersSearched_l2
      refine iter_to (fun j => (((Fm S O j : Nat) : Int), ((sumN (tdS S O) j : Nat) : Int), ((sumN (tdO S O) j : Nat) : Int), ((sumN (fun i => wt S (at' O i)) j : Nat) : Int), (j : Int), ())) S.length _ (fun j hj rec => ?_) (fun rec => ?_) k (by omega)
      · obtain ⟨e1, e2⟩ := at_i k (by omega) G p j hj
        have hF := Fm_le G.inD O (j + 1)
        have eF : iw (((Fm S O j : Nat) : Int) + ((mi S (at' O j) : Nat) : Int)) = ((Fm S O (j + 1) : Nat) : Int) := by
          have : Fm S O (j + 1) = Fm S O j + mi S (at' O j) := rfl
          rw [iw_id (by omega) (by omega)]; omega
        obtain ⟨t1, t2⟩ := td_le k (by omega) G p j (by omega)
        obtain ⟨s1, s2⟩ := tdsum_le k (by omega) G p j (by omega)
        have w1 := hws j
        have w2 := (inD_at G.inD (at' O j)).2.1
        have eT : ((wt S (at' O j) : Nat) : Int) * ((Fm S O (j + 1) : Nat) : Int) = ((tdS S O j : Nat) : Int) := mulN _ _
        have eU : ((wt S (at' O j) : Nat) : Int) * ((j + 1 : Nat) : Int) = ((tdO S O j : Nat) : Int) := mulN _ _
        simp only [laws_FnDrawersSearched_l2_b]
        rw [cond_dec, if_pos (by omega), ixk_in (by omega) (by omega), e1, ixk_in (by omega) (by omega), foundAt_is k (by omega) hg p _ e2, fd_at k (by omega) G p j hj]
        simp only [Option.bind_some, (inD_at G.inD (at' O j)).1, eF, bne_self_eq_false, Bool.not_true, cond_false, met_inl]
        rw [iw_nat (by omega), eT, eU, iw_id (x := ((tdS S O j : Nat) : Int)) (by omega) (by omega), iw_id (x := ((tdO S O j : Nat) : Int)) (by omega) (by omega), iw_id (by omega) (by omega), iw_id (by omega) (by omega), iw_id (by omega) (by omega)]
        rfl
      · simp only [laws_FnDrawersSearched_l2_b]
        rw [cond_dec, if_neg (by omega)]
    rw [h]
    simp only [met_inl]
    rw [chAll_is k (by omega) hg p, M_F p, show sumN (fun i => wt S (at' O i)) S.length = Wd S from p.sum (wt S)]
    simp only [Option.bind_some, bne_self_eq_false, cond_false]
    rw [mIs_is k _ _ (by omega) hW.1 (by omega) (by omega)]
    simp only [Option.bind_some, Bool.not_true, cond_false]
    rw [mIs_is k _ _ (by omega) hW.1 (by omega) (by omega)]
    have hM := mi_sum G.inD S.length
    have : decide (((M S : Nat) : Int) ≤ 1000) = true := decide_eq_true (by unfold M; omega)
    rw [this]
    rfl
/-! ### Two drawers changed about -/
def sw (O : List Int) (n : Nat) : List Int := setI (setI O (n : Int) (rd O ((n + 1 : Nat) : Int))) ((n + 1 : Nat) : Int) (rd O (n : Int))
section
variable {O : List Int} {N : Nat} (p : Perm O N) (n : Nat) (hn : n + 1 < N)
include p hn
theorem sw_len : (sw O n).length = N := by
  have _h := hn
  unfold sw setI
  rw [List.length_set, List.length_set, p.len]
theorem sw_get (i : Nat) (hi : i < N) : (sw O n)[i]'(by rw [sw_len p n hn]; exact hi) = if i = n + 1 then O[n]'(by rw [p.len]; omega) else if i = n then O[n + 1]'(by rw [p.len]; omega) else O[i]'(by rw [p.len]; omega) := by
  have len := p.len
  have e : sw O n = (O.set n (O[n + 1]'(by omega))).set (n + 1) (O[n]'(by omega)) := by
    unfold sw
    rw [rd_nat O n (by omega), rd_nat O (n + 1) (by omega)]
    simp only [setI, Int.toNat_natCast]
  rw [List.getElem_of_eq e, List.getElem_set]
  by_cases h1 : i = n + 1
  · rw [if_pos h1.symm, if_pos h1]
  · rw [if_neg (Ne.symm h1), if_neg h1, List.getElem_set]
    by_cases h2 : i = n
    · rw [if_pos h2.symm, if_pos h2]
    · rw [if_neg (Ne.symm h2), if_neg h2]
theorem sw_at (i : Nat) (hi : i < N) : at' (sw O n) i = if i = n + 1 then at' O n else if i = n then at' O (n + 1) else at' O i := by
  have len := p.len
  have a : ∀ (l : List Int) (j : Nat) (h : j < l.length), at' l j = l[j].toNat := fun l j h => by
    have h' : j < (nats' l).length := by rw [nats_len]; exact h
    rw [at_get j h]
    simp [nats']
  rw [a _ i (by rw [sw_len p n hn]; exact hi), sw_get p n hn i hi, a _ n (by omega), a _ (n + 1) (by omega), a _ i (by omega)]
  split
  · rfl
  · split <;> rfl
theorem sw_perm : Perm (sw O n) N := by
  have len := p.len
  have hl := sw_len p n hn
  refine ⟨hl, fun x hx => ?_, ?_⟩
  · obtain ⟨i, hi, rfl⟩ := List.mem_iff_getElem.1 hx
    rw [sw_get p n hn i (by omega)]
    split
    · exact p.inO _ (List.getElem_mem _)
    · split
      · exact p.inO _ (List.getElem_mem _)
      · exact p.inO _ (List.getElem_mem _)
  · rw [List.nodup_iff_pairwise_ne, List.pairwise_iff_getElem]
    intro i j hi hj hij he
    have hi' : i < N := by rw [nats_len, hl] at hi; exact hi
    have hj' : j < N := by rw [nats_len, hl] at hj; exact hj
    have g1 : (nats' (sw O n))[i] = at' (sw O n) i := (at_get i (by omega)).symm
    have g2 : (nats' (sw O n))[j] = at' (sw O n) j := (at_get j (by omega)).symm
    rw [g1, g2, sw_at p n hn i hi', sw_at p n hn j hj'] at he
    have inj : ∀ a b, a < N → b < N → at' O a = at' O b → a = b := fun a b ha hb e => by rw [← p.pl_at ha, e, p.pl_at hb]
    have e2 : (if i = n + 1 then n else if i = n then n + 1 else i) = (if j = n + 1 then n else if j = n then n + 1 else j) := by
      refine inj _ _ (by split <;> (try split) <;> omega) (by split <;> (try split) <;> omega) ?_
      refine Eq.trans ?_ (Eq.trans he ?_)
      · split
        · rfl
        · split <;> rfl
      · split
        · rfl
        · split <;> rfl
    split at e2 <;> split at e2 <;> (try split at e2) <;> (try split at e2) <;> omega
end
theorem sw_Fm {S : DT} {O : List Int} {N : Nat} (p : Perm O N) (n : Nat) (hn : n + 1 < N) : (∀ j, j ≤ n → Fm S (sw O n) j = Fm S O j) ∧ (∀ d, n + 2 + d ≤ N → Fm S (sw O n) (n + 2 + d) = Fm S O (n + 2 + d)) ∧ Fm S (sw O n) (n + 1) = Fm S O n + mi S (at' O (n + 1)) := by
  have h1 : ∀ j, j ≤ n → Fm S (sw O n) j = Fm S O j := fun j hj => by
    unfold Fm
    refine sumN_congr _ fun i hi => ?_
    rw [sw_at p n hn i (by omega), if_neg (by omega), if_neg (by omega)]
  have h2 : Fm S (sw O n) (n + 1) = Fm S O n + mi S (at' O (n + 1)) := by
    show Fm S (sw O n) n + mi S (at' (sw O n) n) = _
    rw [h1 n (Nat.le_refl _), sw_at p n hn n (by omega), if_neg (by omega), if_pos rfl]
  refine ⟨h1, fun d => ?_, h2⟩
  induction d with
  | zero =>
    intro _
    show Fm S (sw O n) (n + 1) + mi S (at' (sw O n) (n + 1)) = Fm S O n + mi S (at' O n) + mi S (at' O (n + 1))
    rw [h2, sw_at p n hn (n + 1) (by omega), if_pos rfl]
    omega
  | succ d ih =>
    intro hd
    show Fm S (sw O n) (n + 2 + d) + mi S (at' (sw O n) (n + 2 + d)) = Fm S O (n + 2 + d) + mi S (at' O (n + 2 + d))
    rw [ih (by omega), sw_at p n hn (n + 2 + d) (by omega), if_neg (by omega), if_neg (by omega)]
theorem sw_td {S : DT} {O : List Int} {N : Nat} (p : Perm O N) (n : Nat) (hn : n + 1 < N) : sumN (tdS S (sw O n)) N + wt S (at' O (n + 1)) * mi S (at' O n) = sumN (tdS S O) N + wt S (at' O n) * mi S (at' O (n + 1)) := by
  obtain ⟨f1, f2, f3⟩ := sw_Fm (S := S) p n hn
  have h1 : sumN (tdS S (sw O n)) n = sumN (tdS S O) n := by
    refine sumN_congr _ fun i hi => ?_
    unfold tdS
    rw [sw_at p n hn i (by omega), if_neg (by omega), if_neg (by omega), f1 (i + 1) (by omega)]
  have h2 : ∀ d, n + 2 + d ≤ N → sumN (tdS S (sw O n)) (n + 2 + d) + wt S (at' O (n + 1)) * mi S (at' O n) = sumN (tdS S O) (n + 2 + d) + wt S (at' O n) * mi S (at' O (n + 1)) := by
    intro d
    induction d with
    | zero =>
      intro _
      show sumN (tdS S (sw O n)) n + tdS S (sw O n) n + tdS S (sw O n) (n + 1) + _ = sumN (tdS S O) n + tdS S O n + tdS S O (n + 1) + _
      rw [h1]
      unfold tdS
      have g2 := f2 0 (by omega)
      rw [sw_at p n hn n (by omega), if_neg (by omega), if_pos rfl, sw_at p n hn (n + 1) (by omega), if_pos rfl, f3, show n + 1 + 1 = n + 2 + 0 from rfl, g2,
        show Fm S O (n + 2 + 0) = Fm S O n + mi S (at' O n) + mi S (at' O (n + 1)) from rfl, show Fm S O (n + 1) = Fm S O n + mi S (at' O n) from rfl]
      simp only [Nat.mul_add]
      omega
    | succ d ih =>
      intro hd
      have := ih (by omega)
      have e : tdS S (sw O n) (n + 2 + d) = tdS S O (n + 2 + d) := by
        unfold tdS
        have := f2 (d + 1) hd
        rw [sw_at p n hn (n + 2 + d) (by omega), if_neg (by omega), if_neg (by omega), show n + 2 + d + 1 = n + 2 + (d + 1) from rfl, this]
      show sumN (tdS S (sw O n)) (n + 2 + d) + tdS S (sw O n) (n + 2 + d) + _ = sumN (tdS S O) (n + 2 + d) + tdS S O (n + 2 + d) + _
      rw [e]; omega
  have := h2 (N - (n + 2)) (by omega)
  rw [show n + 2 + (N - (n + 2)) = N by omega] at this
  exact this
theorem fd_le {S : DT} (G : GoodD S) {O : List Int} (p : Perm O S.length) (i : Nat) : wt S i * fd S O i ≤ 50 * 540 := Nat.mul_le_mul (inD_at G.inD i).2.1 (by
  have l8 := G.l8
  have len := p.len
  have h1 : pl O i ≤ 8 := by
    have : pl O i ≤ (nats' O).length := List.idxOf_le_length
    rw [nats_len] at this; omega
  have h2 := Fm_le G.inD O (pl O i + 1)
  show Fm S O (pl O i + 1) ≤ 540
  omega)
theorem sgSwap_is (k : Nat) (hk : 2000 ≤ k) (S : DT) (O : List Int) (q : Int) (A : DT) (B : List Int) (C D E F : DT) (b : Bool) : sgSwapD k ((S, O, q, ()), ()) (scVal S O q) (S, O, A, B, C, D, E, F, b, ()) = some (.inl ()) := by
  unfold sgSwapD
  cases hb : scB S O q with
  | false => unfold scVal; rw [hb]; rfl
  | true =>
    unfold scVal
    rw [hb]
    unfold scB at hb
    simp only [Bool.and_eq_true, decide_eq_true_eq] at hb
    obtain ⟨hb, hq1, hq2⟩ := hb
    obtain ⟨G, p⟩ := isB2_is hb
    have hg : goodD S = true := by unfold isB2 at hb; simp only [Bool.and_eq_true] at hb; exact hb.1
    obtain ⟨n, rfl⟩ : ∃ n : Nat, q = (n : Int) := ⟨q.toNat, by omega⟩
    have l8 := G.l8
    have len := p.len
    have hn : n + 1 < S.length := by omega
    have p' := sw_perm p n hn
    simp only [if_true, cond_true, Int.toNat_natCast]
    rw [chk_dec (by omega), iw_nat (by omega), ixk_in (by omega) (by omega), ixk_in (by omega) (by omega), ixk_in (by omega) (by omega), ixk_in (by omega) (by unfold setI; rw [List.length_set]; omega), show (setI (setI O (n : Int) (rd O ((n + 1 : Nat) : Int))) ((n + 1 : Nat) : Int) (rd O (n : Int))) = sw O n from rfl]
    have h : laws_FnDrawersSearched_l8 k (S, O, A, B, C, D, E, F, b, ()) (sw O n) 0 0 0 = some (.inl (((sumN (fun i => wt S i * fd S O i) S.length : Nat) : Int), ((sumN (fun i => wt S i * fd S (sw O n) i) S.length : Nat) : Int), ())) := by
      unfold laws_FnDrawersSearched_l8
      refine iter_to (fun j => (sw O n, ((sumN (fun i => wt S i * fd S O i) j : Nat) : Int), ((sumN (fun i => wt S i * fd S (sw O n) i) j : Nat) : Int), (j : Int), ())) S.length _ (fun j hj rec => ?_) (fun rec => ?_) k (by omega)
      · have a1 := fd_le G p j
        have a2 := fd_le G p' j
        have s1 : sumN (fun i => wt S i * fd S O i) j ≤ 50 * 540 * j := sum_le (fd_le G p) j
        have s2 : sumN (fun i => wt S i * fd S (sw O n) i) j ≤ 50 * 540 * j := sum_le (fd_le G p') j
        simp only [laws_FnDrawersSearched_l8_b]
        rw [cond_dec, if_pos (by omega), ixk_in (by omega) (by omega), foundAt_is k (by omega) hg p j hj, foundAt_is k (by omega) hg p' j hj]
        simp only [Option.bind_some, (inD_at G.inD j).1, Bool.not_true, cond_false, met_inl]
        rw [mulN, mulN, iw_id (x := ((wt S j * fd S O j : Nat) : Int)) (by omega) (by omega), iw_id (x := ((wt S j * fd S (sw O n) j : Nat) : Int)) (by omega) (by omega), iw_id (by omega) (by omega), iw_id (by omega) (by omega), iw_nat (by omega)]
        rfl
      · simp only [laws_FnDrawersSearched_l8_b]
        rw [cond_dec, if_neg (by omega)]
    rw [h, sum_found k (by omega) G p, sum_found k (by omega) G p']
    simp only [met_inl]
    have t := sw_td (S := S) p n hn
    obtain ⟨b1, _⟩ := tdsum_le k (by omega) G p S.length l8
    obtain ⟨b2, _⟩ := tdsum_le k (by omega) G p' S.length l8
    have e : iw (((sumN (tdS S (sw O n)) S.length : Nat) : Int) - ((sumN (tdS S O) S.length : Nat) : Int)) = costD S O n := by
      rw [iw_id (by omega) (by omega)]
      unfold costD
      rw [mulN, mulN]
      omega
    rw [e, bne_self_eq_false]
    rfl

theorem emVal_in {S : DT} {T : List Int} (h : (emVal S T).1.2.1 = true) : goodD (empL S T) = true ∧ (emVal S T).1.1 = empL S T := by
  unfold emVal at *
  cases hg : goodD (empL S T) with
  | false => rw [hg] at h; cases h
  | true => exact ⟨rfl, rfl⟩
theorem sgAfter_is (k : Nat) (hk : 2000 ≤ k) (S : DT) (O : List Int) (q : Int) (A : DT) (B : List Int) (D E F : DT) (b : Bool) : sgAfterD k ((S, O, q, ()), ()) (asVal S O q) (A, B, S, O, (asVal S O q).1.1, D, E, F, b, ()) = some (.inl ()) := by
  unfold sgAfterD
  cases hf : (asVal S O q).1.2.1 with
  | false => rfl
  | true =>
    unfold asVal at hf ⊢
    cases hb : asB S O q with
    | false => rw [hb] at hf; cases hf
    | true =>
      rw [hb] at hf
      rw [if_pos rfl]
      rw [if_pos rfl] at hf
      unfold asB at hb
      simp only [Bool.and_eq_true, decide_eq_true_eq] at hb
      obtain ⟨hb, hq1, hq2⟩ := hb
      obtain ⟨G, p⟩ := isB2_is hb
      have l8 := G.l8
      have len := p.len
      obtain ⟨g1, g2⟩ := emVal_in hf
      rw [g2]
      simp only [cond_true]
      have hel : (empL S (O.take q.toNat)).length = S.length := edr_len _ _ _
      have h : laws_FnDrawersSearched_l12 k ((S, O, q, ()), ()) (A, B, S, O, empL S (O.take q.toNat), D, E, F, b, ()) 0 = some (.inl ()) := by
        unfold laws_FnDrawersSearched_l12
        refine iter_to (fun j => ((j : Int), ())) S.length _ (fun j hj rec => ?_) (fun rec => ?_) k (by omega)
        · have e1 : rdG ((0, 0) : Int × Int) (empL S (O.take q.toNat)) (j : Int) = ((ew S (O.take q.toNat) j : Int), (mi S j : Int)) := edr_get _ _ _ j hj
          simp only [laws_FnDrawersSearched_l12_b]
          rw [cond_dec, if_pos (by omega), ixk_in (by omega) (by omega), chk_dec hq1, chk_dec (by omega), mHas_is k (by omega) _ _ (by rw [List.length_take]; omega)]
          simp only [Option.bind_some]
          rw [ixk_in (by omega) (by omega), e1, (inD_at G.inD j).1]
          simp only [bne_self_eq_false, cond_false]
          by_cases hm : (j : Int) ∈ O.take q.toNat
          · rw [decide_eq_true hm, show ew S (O.take q.toNat) j = 0 by unfold ew; rw [if_pos hm], iw_nat (by omega)]
            rfl
          · rw [decide_eq_false hm, show ew S (O.take q.toNat) j = wt S j by unfold ew; rw [if_neg hm], iw_nat (by omega)]
            simp only [cond_false, Bool.not_false, cond_true, bne_self_eq_false]
            rw [ixk_in (by omega) (by omega)]
            rfl
        · simp only [laws_FnDrawersSearched_l12_b]
          rw [cond_dec, if_neg (by omega)]
      rw [h]; rfl
theorem ew_sum (S : DT) (n : Nat) (hn : n < S.length) : sumN (ew S [(n : Int)]) S.length + wt S n = Wd S := by
  unfold Wd
  have key : ∀ m, (m ≤ n → sumN (ew S [(n : Int)]) m = sumN (wt S) m) ∧ (n < m → sumN (ew S [(n : Int)]) m + wt S n = sumN (wt S) m) := by
    intro m
    induction m with
    | zero => exact ⟨fun _ => rfl, fun h => absurd h (Nat.not_lt_zero _)⟩
    | succ m ih =>
      have e : ew S [(n : Int)] m = if m = n then 0 else wt S m := by
        unfold ew
        by_cases h : m = n
        · rw [if_pos h, if_pos (by rw [h]; simp)]
        · rw [if_neg h, if_neg (by simp; omega)]
      simp only [sumN, e]
      refine ⟨fun h => ?_, fun h => ?_⟩
      · rw [if_neg (by omega), ih.1 (by omega)]
      · by_cases h1 : m = n
        · rw [if_pos h1, ← h1, ← ih.1 (by omega), h1]; omega
        · rw [if_neg h1]
          have := ih.2 (by omega)
          omega
  exact (key S.length).2 hn
theorem emp_good {S : DT} (G : GoodD S) (n : Nat) (hn : n < S.length) : goodD (empL S [(n : Int)]) = decide (wt S n < Wd S) := by
  have hs := ew_sum S n hn
  have hl : (empL S [(n : Int)]).length = S.length := edr_len _ _ _
  have he : sumN (wt (empL S [(n : Int)])) (empL S [(n : Int)]).length = sumN (ew S [(n : Int)]) S.length := by
    rw [hl]
    exact sumN_congr _ fun i hi => (edr_wt _ _ _ i hi).1
  by_cases h : wt S n < Wd S
  · rw [decide_eq_true h]
    exact goodD_mk (by rw [hl]; exact G.l0) (by rw [hl]; exact G.l8) (emp_in G.inD _) (by rw [he]; omega)
  · rw [decide_eq_false h, ← Bool.not_eq_true]
    intro hg
    have := (goodD_is hg).pos
    rw [he] at this
    omega
theorem low_eqD (w d : Nat) (hd : 0 < d) : (((w / Nat.gcd w d : Nat) : Int) == ((d / Nat.gcd w d : Nat) : Int)) = decide (w = d) := by
  have hg : 0 < Nat.gcd w d := Nat.gcd_pos_of_pos_right _ hd
  by_cases h : w = d
  · rw [decide_eq_true h, h, beq_self_eq_true]
  · rw [decide_eq_false h, beq_eq_false_iff_ne]
    intro e
    apply h
    have e' : w / Nat.gcd w d = d / Nat.gcd w d := by omega
    have h1 := Nat.div_mul_cancel (Nat.gcd_dvd_left w d)
    have h2 := Nat.div_mul_cancel (Nat.gcd_dvd_right w d)
    rw [e'] at h1
    exact h1.symm.trans h2
theorem sgEmpty_is (k : Nat) (hk : 2000 ≤ k) (S : DT) (q : Int) (A : DT) (B : List Int) (C : DT) (D : List Int) (E F : DT) (b : Bool) : sgEmptyD k ((S, q, ()), ()) (aeVal S q) (A, B, C, D, E, S, (aeVal S q).1.1, F, b, ()) = some (.inl ()) := by
  unfold sgEmptyD
  cases hf : (aeVal S q).1.2.1 with
  | false => rfl
  | true =>
    unfold aeVal at hf ⊢
    cases hb : aeB S q with
    | false => rw [hb] at hf; cases hf
    | true =>
      rw [hb] at hf
      rw [if_pos rfl]
      rw [if_pos rfl] at hf
      unfold aeB at hb
      simp only [Bool.and_eq_true, decide_eq_true_eq] at hb
      obtain ⟨hg, hq1, hq2⟩ := hb
      have G := goodD_is hg
      have l8 := G.l8
      obtain ⟨g1, g2⟩ := emVal_in hf
      rw [g2]
      have hel : (empL S [q]).length = S.length := edr_len _ _ _
      simp only [cond_true]
      rw [implCI_is k (by omega) (empL S [q]) [] (by omega) (by simp) q, hel, bne_self_eq_false]
      have ha : aeB (empL S [q]) q = true := by
        unfold aeB
        rw [g1, hel, decide_eq_true hq1, decide_eq_true hq2]; rfl
      have hw : wt (empL S [q]) q.toNat = 0 := by
        rw [show wt (empL S [q]) q.toNat = ew S [q] q.toNat from (edr_wt _ _ _ _ (by omega)).1]
        unfold ew
        rw [if_pos (by rw [Int.toNat_of_nonneg hq1]; simp)]
      unfold ciVal
      rw [ha, if_pos rfl, hw]
      simp only [chOut, Nat.zero_div]
      rfl
theorem sgText_is (k : Nat) (hk : 2000 ≤ k) (S : DT) (A : DT) (B : List Int) (C : DT) (D : List Int) (E F H : DT) (b : Bool) : sgTextD k (dxVal S) (A, B, C, D, E, S, F, H, b, ()) = some (.inl ()) := by
  unfold sgTextD dxVal
  cases hg : goodD S with
  | false => rfl
  | true =>
    have G := goodD_is hg
    have l8 := G.l8
    have hd := dtl_len S
    obtain ⟨v, ev, pv⟩ := implPD_is k hk (lit (dtl S)) (by rw [lit_size]; omega)
    have := pv.2 S hg rfl
    subst this
    simp only [if_true, cond_true]
    rw [ev]
    simp only [Option.bind_some]
    rw [mDrawers_self k (by omega) S (by omega)]
    rfl
theorem sgRead_is (k : Nat) (hk : 2000 ≤ k) (s : ByteArray) (v : (DT × Bool × Unit) × Unit) (h : DpOk s v) (A : DT) (B : List Int) (C : DT) (D : List Int) (E F H : DT) (b : Bool) : sgReadD k ((s, ()), ()) v (A, B, C, D, E, F, H, v.1.1, b, ()) = some ((true, ()), ()) := by
  unfold sgReadD
  rcases h.1 with rfl | ⟨S, hg, t, rfl⟩
  · rfl
  · have G := goodD_is hg
    have l8 := G.l8
    simp only [cond_true]
    rw [implDX_is k (by omega) S (by omega)]
    unfold dxVal
    rw [hg]
    simp only [if_true, Option.bind_some, cond_true]
    rw [← t, beq_self_eq_true]
    rfl
theorem em_len (S : DT) (T : List Int) (h : S.length ≤ 10) : (emVal S T).1.1.length ≤ 60 := by
  unfold emVal
  split
  · rw [show ((((empL S T, true, ()), ()) : (DT × Bool × Unit) × Unit)).1.1 = empL S T from rfl]
    unfold empL; rw [edr_len]; omega
  · exact Nat.zero_le _
theorem law5_is (k : Nat) (hk : 2000 ≤ k) (l : List Int) (h : ∀ x ∈ l, 0 ≤ x ∧ x ≤ 255) : law5_f k l = some ((true, ()), ()) := by
  unfold law5_f
  obtain ⟨S, O, q, e1, d1, d2⟩ := drawSwC_is k (by omega) l h
  obtain ⟨A, B, r, e2, d3, d4⟩ := drawASe_is k (by omega) l h
  obtain ⟨C, t, e3, d5⟩ := drawAEm_is k (by omega) l h
  obtain ⟨s, e4, hs⟩ := drawPD_is k (by omega) l h
  obtain ⟨v, ev, pv⟩ := implPD_is k hk s (by omega)
  obtain ⟨v', ev', pv'⟩ := specPD_is k hk s (by omega)
  obtain rfl := pv.uniq pv'
  have m1 : (asVal A B r).1.1.length ≤ 60 := by
    unfold asVal
    split
    · exact em_len _ _ (by omega)
    · exact Nat.zero_le _
  have m2 : (aeVal C t).1.1.length ≤ 60 := by
    unfold aeVal
    split
    · exact em_len _ _ (by omega)
    · exact Nat.zero_le _
  have m3 : v.1.1.length ≤ 60 := by
    rcases pv.1 with rfl | ⟨X, hg, _, rfl⟩
    · exact Nat.zero_le _
    · have := (goodD_is hg).l8
      show X.length ≤ 60; omega
  simp only [e1, e2, e3, e4, ev, ev', Option.bind_some, implSC_is k (by omega) S O (by omega) (by omega) q, specSC_is k (by omega) S O (by omega) (by omega) q, implAS_is k (by omega) A B (by omega) (by omega) r, specAS_is k (by omega) A B (by omega) (by omega) r,
    implAE_is k (by omega) C [] (by omega) (by simp) t, specAE_is k (by omega) C [] (by omega) (by simp) t, implCI_is k (by omega) C [] (by omega) (by simp) t, specCI_is k (by omega) C [] (by omega) (by simp) t, implDX_is k (by omega) C (by omega), specDX_is k (by omega) C (by omega),
    mDrawers_self k (by omega) _ m1, mDrawers_self k (by omega) _ m2, mDrawers_self k (by omega) _ m3, beq_self_eq_true, bne_self_eq_false, Bool.not_true, cond_false]
  refine met_goG (S, O, A, B, (asVal A B r).1.1, C, (aeVal C t).1.1, v.1.1, false, ()) ?_ ?_
  · cases hb : aeB C t with
    | false =>
      have a1 : aeVal C t = (([], false, ()), ()) := by unfold aeVal; rw [hb]; rfl
      have a2 : ciVal C t = ((0, 0, false, ()), ()) := by unfold ciVal; rw [hb]; rfl
      rw [a1, a2]; rfl
    | true =>
      have hb' := hb
      unfold aeB at hb'
      simp only [Bool.and_eq_true, decide_eq_true_eq] at hb'
      obtain ⟨hg, hq1, hq2⟩ := hb'
      have G := goodD_is hg
      obtain ⟨n, rfl⟩ : ∃ n : Nat, t = (n : Int) := ⟨t.toNat, by omega⟩
      have hn : n < C.length := by omega
      have a1 : (aeVal C (n : Int)).1.2.1 = decide (wt C n < Wd C) := by
        unfold aeVal
        rw [hb, if_pos rfl, ← emp_good G n hn]
        unfold emVal
        cases goodD (empL C [(n : Int)]) <;> rfl
      have a2 : ciVal C (n : Int) = chOut (wt C n) (Wd C) := by unfold ciVal; rw [hb]; rfl
      have a3 := low_eqD (wt C n) (Wd C) G.pos
      have a4 := ew_sum C n hn
      rw [a2]
      simp only [chOut, a1, a3, Bool.not_true, cond_false, cond_true]
      by_cases hw : wt C n < Wd C
      · rw [decide_eq_true hw, decide_eq_false (show ¬ wt C n = Wd C by omega)]; rfl
      · rw [decide_eq_false hw, decide_eq_true (show wt C n = Wd C by omega)]; rfl
  · simp only [cond_false]
    refine met_goG () (sgSwap_is k hk S O q A B (asVal A B r).1.1 C (aeVal C t).1.1 v.1.1 false) ?_
    refine met_goG () (sgAfter_is k hk A B r S O C (aeVal C t).1.1 v.1.1 false) ?_
    refine met_goG () (sgEmpty_is k hk C t S O A B (asVal A B r).1.1 v.1.1 false) ?_
    refine met_goG () (sgText_is k hk C S O A B (asVal A B r).1.1 (aeVal C t).1.1 v.1.1 false) ?_
    exact sgRead_is k hk s v pv S O A B (asVal A B r).1.1 C (aeVal C t).1.1 false
theorem law_FnDrawersSearched (k : Nat) (hk : 2000 ≤ k) (l0 l1 : List Int) (h0 : ∀ x ∈ l0, 0 ≤ x ∧ x ≤ 255) (h1 : ∀ x ∈ l1, 0 ≤ x ∧ x ≤ 255) : laws_FnDrawersSearched_f k l0 l1 = some ((true, ()), ()) := by
  unfold laws_FnDrawersSearched_f
  obtain ⟨b, eb⟩ := big_is k l0 l1
  obtain ⟨S, O, ed, d1, d2⟩ := drawMS_is k (by omega) l0 h0
  rw [eb]
  simp only [Option.bind_some]
  cases b with
  | true => rfl
  | false =>
    simp only [cond_false, ed, Option.bind_some, implMS_is k (by omega) S O (by omega) (by omega), specMS_is k (by omega) S O (by omega) (by omega), implMO_is k (by omega) S O (by omega) (by omega), specMO_is k (by omega) S O (by omega) (by omega), implIsS_is k (by omega) S O (by omega) (by omega), specIsS_is k (by omega) S O (by omega) (by omega),
      implMA_is k (by omega) S (by omega), specMA_is k (by omega) S (by omega), areD_is k (by omega) S (by omega), show spec_AreDrawers_f k S = some ((goodD S, ()), ()) by unfold spec_AreDrawers_f; rw [dwGood_is k (by omega) S (by omega)]; rfl, beq_self_eq_true, bne_self_eq_false, Bool.not_true]
    refine met_goG (S, O, false, ()) ?_ ?_
    · have b1 : (msVal2 S O).1.2.2.1 = isB2 S O := by unfold msVal2; cases isB2 S O <;> rfl
      have b2 : (moVal S O).1.2.2.1 = isB2 S O := by unfold moVal; cases isB2 S O <;> rfl
      have b3 : (maVal S).1.2.1 = goodD S := by unfold maVal; cases goodD S <;> rfl
      have b4 : (isSVal S O).1.1 = isB2 S O := rfl
      have b5 : (isSVal S O).1.2.1 = goodD S := rfl
      simp only [b1, b2, b3, b4, b5, beq_self_eq_true, Bool.not_true, cond_false]
      cases hg : goodD S with
      | true => rfl
      | false =>
        have : isB2 S O = false := by unfold isB2; rw [hg]; rfl
        rw [this]; rfl
    · simp only [cond_false]
      refine met_goG () (sgMean_is k hk S O false) ?_
      exact law5_is k hk l1 h1
theorem pure_FnDrawersSearched : Law laws_FnDrawersSearched_f := fun l0 l1 _ h0 _ h1 => ⟨2000, law_FnDrawersSearched 2000 (Nat.le_refl _) l0 l1 (byte_in h0) (byte_in h1)⟩

end Go.Proofs.YtmhcdiiiiklplaaGreatDoorV.Law
