/- The functions that a law reaches, and proofs that the Go code comes to just their answers: written by a program of this session out of the translation. Conditions: those that each theorem states. -/
import Derived.Test.YtdddmkdidegngaaPFnExactSureNumbersx0
import Derived.Test.YtdddmkdidegngaaPFnExactSureNumbersx7
import Derived.Test.YtdddmkdidegngaaPFnExactSureNumbersx10
namespace Go.Proofs.Ytdddmkdidegngaa.PFnExactSureNumbers
open Go.RowKit Go.Proofs.YtdddmkdidegngaaW.PrintWords Go.Proofs.YtdddmkdidegngaaW.PrintLast Go.Proofs.YtdddmkdidegngaaW.PrintMore
attribute [local go_sem] max2_int min2_int max_two min_two max_three min_three max_four min_four   -- for this text's walks alone
set_option linter.unusedVariables false
set_option linter.unusedSimpArgs false

/-! ### impl_solve: function 101 -/
theorem impl_solve.zc_len (z : Array Value) (n : Nat) : (Builtin.zeroCells z n).toList.length = n * z.size := by simp [Builtin.zeroCells]
theorem impl_solve.zc_one (z : Array Value) (n : Nat) (h1 : ∀ u ∈ z.toList, u.oneCell' = true) : ∀ u ∈ (Builtin.zeroCells z n).toList, u.oneCell' = true := by
  intro u hu
  simp only [Builtin.zeroCells, Array.toList_map, List.mem_map, Array.toList_range, List.mem_range] at hu
  obtain ⟨i, hi, rfl⟩ := hu
  have hz : 0 < z.size := by
    rcases Nat.eq_zero_or_pos z.size with h | h
    · rw [h, Nat.mul_zero] at hi; omega
    · exact h
  have hm := Nat.mod_lt i hz
  rw [getElem!_pos z _ hm]
  exact h1 _ (by rw [← Array.getElem_toList (h := by simpa using hm)]; exact List.getElem_mem _)
theorem impl_solve.clear_run {P : Program} {e t ty : TypeId} {z : Value} {sz bytes : Nat} (ht : P.underlying t = some (.slice e)) (hinfo : (P.info? e).map (fun i => (i.zero, i.size, i.bytes)) = some (some z, sz, bytes)) (h1 : ∀ u ∈ z.cells.toList, u.oneCell' = true) (W : World) (b o n c : Nat) (hn : 0 < n)
    (hc : ∀ j, j < n * z.cells.size → (W.cell? ⟨b, o + j, none⟩).isSome = true) (hf : ∀ j, j < n * z.cells.size → W.frozen? ⟨b, o + j, none⟩ = false) :
    (Builtin.clear_ #[t] ty #[.slice (some ⟨b, o, none⟩) n c]).run P W = .ok (.tuple #[]) (W.setCells b o (Builtin.zeroCells z.cells n).toList) := by
  obtain ⟨i0, hi, hz⟩ := Option.map_eq_some_iff.1 hinfo
  have hz1 : i0.zero = some z := by injection hz
  have hst := run_storeCells_cells (P := P) b o (Builtin.zeroCells z.cells n).toList 0 W (by rw [impl_solve.zc_len]; simpa using hc) (by rw [impl_solve.zc_len]; simpa using hf) (impl_solve.zc_one _ _ h1)
  simp only [Nat.add_zero] at hst
  obtain ⟨m, rfl⟩ : ∃ m, n = m + 1 := ⟨n - 1, by omega⟩
  simp [Builtin.clear_, run_underlying ht, zeroValue, typeInfo, hi, hz1, hst]
/-- Those of which a test tells false. -/
def impl_solve.left (φ : List Int → Option Bool) : List (List Int) → Option (List (List Int))
  | [] => some []
  | x :: l => (φ x).bind fun b => (impl_solve.left φ l).bind fun r => some (if b = true then r else x :: r)
/-- Rows in a block, from its second cell on. -/
structure impl_solve.Rows (W : World) (g : Nat) (ok : Nat → Prop) (cur : Array Value) (vs : List Value) (ys : List (List Int)) : Prop where
  hg : W.heap[g]? = some (.cells cur 22 (0, 0))
  len : vs.length = ys.length
  at_ : ∀ (t : Nat) (u : Value), vs[t]? = some u → cur[1 + t]? = some u
  row : ∀ (t : Nat) (y : List Int) (u : Value), ys[t]? = some y → vs[t]? = some u → Kd.FK (Kd.slice 3 (Kd.int .i64)) W (fun q => ok q ∧ q ≠ g) y [u]
theorem impl_solve.Rows.V {W : World} {g base c : Nat} {ok : Nat → Prop} {cur : Array Value} {vs : List Value} {ys : List (List Int)} (h : impl_solve.Rows W g ok cur vs ys) (hok : ok g) (hc : ys.length ≤ c) (hm : ys.length ≤ 9223372036854775807) : Kd.V (Kd.slice 3 (Kd.int .i64)) 22 W base ok (.slice (some ⟨g, 1, none⟩) ys.length c) ys := by
  refine Kd.V_mk hc (fun W' hW => ⟨rfl, hm, fun hp => ⟨_, rfl, fun j y hj => ?_⟩⟩)
  have hjl : j < vs.length := by rw [h.len]; exact (List.getElem?_eq_some_iff.1 hj).1
  have hu : vs[j]? = some vs[j] := List.getElem?_eq_getElem hjl
  refine ⟨[vs[j]], rfl, h.row j y _ hj hu W' (fun q hq hlt => hW q hq.1 hlt), fun i u hi => ?_⟩
  have hg' : W'.heap[g]? = some (.cells cur 22 (0, 0)) := (hW g hok (blk_lt h.hg)).trans h.hg
  cases i with
  | zero =>
    simp only [List.getElem?_cons_zero, Option.some.injEq] at hi
    subst hi
    rw [add_at, show 1 + (j * (Kd.slice 3 (Kd.int .i64)).sz + 0) = 1 + j from by rw [show (Kd.slice 3 (Kd.int .i64)).sz = 1 from rfl]; omega, blk_cell hg']
    exact h.at_ j _ hu
  | succ i => simp at hi
theorem impl_solve.Rows.of_S {W : World} {g base c : Nat} {x0 : List Int} {xs : List (List Int)} (h : Kd.S (Kd.slice 3 (Kd.int .i64)) 22 W base (fun _ => True) (.slice (some ⟨g, 0, none⟩) (xs.length + 1) c) (x0 :: xs)) :
    ∃ cur vs, impl_solve.Rows W g (fun q => base ≤ q) cur vs xs ∧ xs.length + 1 ≤ cur.size := by
  obtain ⟨cur, hg⟩ := Kd.S_typed h g rfl
  have hN := Kd.S_N (Kd.S_bound h)
  have hget : ∀ t, t < xs.length → ∃ u, cur[1 + t]? = some u ∧ Kd.FK (Kd.slice 3 (Kd.int .i64)) W (fun q => base ≤ q ∧ q ≠ g) (xs.getD t []) [u] := by
    intro t ht
    obtain ⟨cs, hl, hK, hc⟩ := Kd.N_get hN [] ((t : Int) + 1) (by omega) (by omega)
    obtain ⟨u, rfl⟩ : ∃ u, cs = [u] := by
      match cs, hl with
      | [u], _ => exact ⟨u, rfl⟩
    have h1 := hc 0 u rfl
    rw [add_at, show 0 + (((t : Int) + 1).toNat * (Kd.slice 3 (Kd.int .i64)).sz + 0) = 1 + t from by rw [show (Kd.slice 3 (Kd.int .i64)).sz = 1 from rfl]; omega, blk_cell hg] at h1
    refine ⟨u, h1, ?_⟩
    rw [show ((t : Int) + 1).toNat = t + 1 from by omega] at hK
    exact Kd.FK_mono hK (fun q hq => ⟨hq.1.2.1, fun he => hq.2 (by rw [he]; rfl)⟩)
  have hsz : xs.length + 1 ≤ cur.size := by
    rcases Nat.eq_zero_or_pos xs.length with h0 | h0
    · obtain ⟨cs, hl, hK, hc⟩ := Kd.N_get hN [] 0 (by omega) (by omega)
      obtain ⟨u, rfl⟩ : ∃ u, cs = [u] := by
        match cs, hl with
        | [u], _ => exact ⟨u, rfl⟩
      have h1 := hc 0 u rfl
      rw [add_at, blk_cell hg] at h1
      have := (Array.getElem?_eq_some_iff.1 h1).1
      omega
    · obtain ⟨u, hu, _⟩ := hget (xs.length - 1) (by omega)
      have := (Array.getElem?_eq_some_iff.1 hu).1
      omega
  refine ⟨cur, (cur.toList.drop 1).take xs.length, ⟨hg, ?_, ?_, ?_⟩, hsz⟩
  · simp; omega
  · intro t u hu
    rw [List.getElem?_take] at hu
    split at hu
    · rw [List.getElem?_drop, Array.getElem?_toList] at hu; exact hu
    · cases hu
  · intro t y u hy hu
    obtain ⟨ht, hy'⟩ := List.getElem?_eq_some_iff.1 hy
    obtain ⟨u', hu', hK⟩ := hget t ht
    rw [List.getElem?_take, if_pos ht, List.getElem?_drop, Array.getElem?_toList, hu'] at hu
    injection hu with hu
    subst hu
    rw [List.getD_eq_getElem?_getD, hy] at hK
    exact hK
def impl_solve.del (k : Nat) (xs : List (List Int)) (φ : List Int → Option Bool) : Option (List (List Int)) :=
  (slices_IndexFunc_ssint_sint.f k xs φ).bind fun i => if i = -1 then some xs else if 0 ≤ i ∧ i < (xs.length : Int) then (impl_solve.left φ (xs.drop (i.toNat + 1))).bind fun r => some (xs.take i.toNat ++ r) else none
/-- In the midst: yj are kept, in kv's cells; behind them lies what lay there (vs from i on). -/
structure impl_solve.Mid (wF W0 W : World) (g : Nat) (csz : Nat) (vs : List Value) (i : Nat) (yj : List (List Int)) : Prop where
  out : ∃ (cur : Array Value) (kv : List Value), W.heap[g]? = some (.cells cur 22 (0, 0)) ∧ cur.size = csz ∧ yj.length = i ∧ kv.length = i ∧ (∀ (t : Nat) (u : Value), (kv ++ vs.drop i)[t]? = some u → cur[1 + t]? = some u) ∧ (∀ (t : Nat) (y : List Int) (u : Value), yj[t]? = some y → kv[t]? = some u → Kd.FK (Kd.slice 3 (Kd.int .i64)) W0 (fun q => wF.heap.size ≤ q ∧ q ≠ g) y [u])
  keep : ∀ q, q < W0.heap.size → q ≠ g → W.heap[q]? = W0.heap[q]?
  hB : Below wF.heap.size wF W
  size : W0.heap.size ≤ W.heap.size
theorem impl_solve.Mid.step {wF W0 W W1 : World} {g csz : Nat} {vs : List Value} {i : Nat} {yj : List (List Int)} (h : impl_solve.Mid wF W0 W g csz vs i yj) (hb : Below W.heap.size W W1) : impl_solve.Mid wF W0 W1 g csz vs i yj := by
  obtain ⟨⟨cur, kv, hg, r⟩, hk, hB, hs⟩ := h
  exact ⟨⟨cur, kv, blk_below hg hb, r⟩, fun q hq hne => (hb.block q (Nat.lt_of_lt_of_le hq hs)).trans (hk q hq hne), below_then hB hB.size hb, Nat.le_trans hs hb.size⟩
/-- One more is kept: v, that stood at j, comes to i. -/
theorem impl_solve.Mid.put {wF W0 W : World} {g csz : Nat} {vs : List Value} {i : Nat} {yj : List (List Int)} {y : List Int} {u : Value} (h : impl_solve.Mid wF W0 W g csz vs i yj) (hgF : wF.heap.size ≤ g) (hi : i < vs.length) (hu : Kd.FK (Kd.slice 3 (Kd.int .i64)) W0 (fun q => wF.heap.size ≤ q ∧ q ≠ g) y [u]) : impl_solve.Mid wF W0 (W.setCell ⟨g, 1 + i, none⟩ u) g csz vs (i + 1) (yj ++ [y]) := by
  obtain ⟨⟨cur, kv, hg, hsz, hy, hkv, hat, hrow⟩, hk, hB, hs⟩ := h
  have hlt : 1 + i < cur.size := by
    have h1 : (kv ++ vs.drop i)[i]? = some vs[i] := by
      rw [List.getElem?_append_right (by omega), hkv, Nat.sub_self, List.getElem?_drop, Nat.add_zero, List.getElem?_eq_getElem hi]
    exact (Array.getElem?_eq_some_iff.1 (hat i _ h1)).1
  refine ⟨⟨cur.setIfInBounds (1 + i) u, kv ++ [u], blk_set hg (1 + i) u, by simpa using hsz, by simp [hy], by simp [hkv], ?_, ?_⟩, ?_, hB.setCell hgF _, by simpa [World.setCell] using hs⟩
  · intro t v ht
    rw [Array.getElem?_setIfInBounds]
    rcases Nat.lt_trichotomy t i with h1 | h1 | h1
    · rw [if_neg (by omega)]
      refine hat t v ?_
      rw [List.append_assoc, List.getElem?_append_left (by omega)] at ht
      rw [List.getElem?_append_left (by omega)]; exact ht
    · subst h1
      rw [if_pos rfl, if_pos hlt]
      rw [List.append_assoc, List.getElem?_append_right (by omega), hkv, Nat.sub_self] at ht
      simpa using ht
    · rw [if_neg (by omega)]
      refine hat t v ?_
      rw [List.getElem?_append_right (by simp; omega)] at ht
      rw [List.getElem?_append_right (by omega), List.getElem?_drop]
      rw [List.getElem?_drop] at ht
      simp only [List.length_append, List.length_singleton, hkv] at ht ⊢
      rw [← ht]; congr 1; omega
  · intro t y' v hy' hv
    rcases Nat.lt_or_ge t i with h1 | h1
    · rw [List.getElem?_append_left (by omega)] at hy' hv
      exact hrow t y' v hy' hv
    · rw [List.getElem?_append_right (by omega)] at hy' hv
      rw [hy] at hy'; rw [hkv] at hv
      cases htt : t - i with
      | zero =>
        rw [htt] at hy' hv
        simp only [List.getElem?_cons_zero, Option.some.injEq] at hy' hv
        subst hy'; subst hv; exact hu
      | succ m => rw [htt] at hy'; simp at hy'
  · intro q hq hne
    exact (Below.heap_setCell W ⟨g, 1 + i, none⟩ u q hne).trans (hk q hq hne)
theorem impl_solve.Mid.cell {wF W0 W : World} {g csz : Nat} {vs : List Value} {i : Nat} {yj : List (List Int)} (h : impl_solve.Mid wF W0 W g csz vs i yj) (j : Nat) (hij : i ≤ j) (u : Value) (hu : vs[j]? = some u) : W.cell? ⟨g, 1 + j, none⟩ = some u ∧ W.frozen? ⟨g, 1 + j, none⟩ = false := by
  obtain ⟨⟨cur, kv, hg, hsz, hy, hkv, hat, hrow⟩, _⟩ := h
  refine ⟨?_, blk_frozen hg _⟩
  rw [blk_cell hg]
  refine hat j u ?_
  rw [List.getElem?_append_right (by omega), hkv, List.getElem?_drop, show i + (j - i) = j by omega]
  exact hu
theorem impl_solve.left_cons {φ : List Int → Option Bool} {xs : List (List Int)} {j : Nat} (hj : j < xs.length) {yr : List (List Int)} (h : impl_solve.left φ (xs.drop j) = some yr) : ∃ b r, φ xs[j] = some b ∧ impl_solve.left φ (xs.drop (j + 1)) = some r ∧ yr = if b = true then r else xs[j] :: r := by
  rw [List.drop_eq_getElem_cons hj] at h
  obtain ⟨b, hb, h⟩ := Option.bind_eq_some_iff.mp h
  obtain ⟨r, hr, h⟩ := Option.bind_eq_some_iff.mp h
  exact ⟨b, r, hb, hr, (Option.some.inj h).symm⟩
set_option maxHeartbeats 8000000 in
set_option maxRecDepth 100000 in
theorem impl_solve.delete (k : Nat) (xs ys : List (List Int)) (q : Value) (φ : List Int → Option Bool) (wF W : World) (g c : Nat) (x0 : List Int) (hS : Kd.S (Kd.slice 3 (Kd.int .i64)) 22 W wF.heap.size (fun _ => True) (.slice (some ⟨g, 0, none⟩) (xs.length + 1) c) (x0 :: xs)) (hB : Below wF.heap.size wF W) (hF : F84 wF q φ) (h : impl_solve.del k xs φ = some ys) :
    Calls Try.prog 124 #[.slice (some ⟨g, 1, none⟩) xs.length (c - 1), q] W fun e w' => e = .returned (.slice (some ⟨g, 1, none⟩) ys.length (c - 1)) ∧ Kd.V (Kd.slice 3 (Kd.int .i64)) 22 w' wF.heap.size (fun q => wF.heap.size ≤ q) (.slice (some ⟨g, 1, none⟩) ys.length (c - 1)) ys ∧ Below wF.heap.size wF w' := by
  obtain ⟨cur, vs, hR, hsz⟩ := impl_solve.Rows.of_S hS
  have hgF : wF.heap.size ≤ g := Kd.S_base hS g rfl
  have hcc : xs.length + 1 ≤ c := by have := (Kd.S_reads' hS).2.1; simpa using this
  have hmax : xs.length + 1 ≤ 9223372036854775807 := by have := (Kd.S_reads' hS).2.2.2.1; simpa using this
  unfold impl_solve.del at h
  obtain ⟨i, hi, h⟩ := Option.bind_eq_some_iff.mp h
  have HI := Aside0.mk hi
  have HS := Aside0.mk hS
  have HB := Aside0.mk hB
  have HF := Aside0.mk hF
  have HR := Aside0.mk hR
  have HH := Aside0.mk h
  have HSZ := Aside0.mk hsz
  have HGF := Aside0.mk hgF
  have HCC := Aside0.mk hcc
  have HMAX := Aside0.mk hmax
  clear hi hS hB hF hR h hsz hgF hcc hmax
  have u68 := Try.underlying68
  have u22 := Try.underlying22
  have hC : Kd.C (Kd.slice 3 (Kd.int .i64)) W (some ⟨g, 1, none⟩) xs.length xs := Kd.F_now (Kd.V_F ((impl_solve.Rows.V (base := 0) HR.out HGF.out (c := xs.length) (Nat.le_refl _) (by have := HMAX.out; omega))))
  have HC := Aside0.mk hC
  clear hC
  go_enter Try.func124, Try.ntmps124
  go_wp2_with fail
  refine (slices_IndexFunc_ssint_sint.calls k (some ⟨g, 1, none⟩) (c - 1) xs q φ i W HC.out (by have := HCC.out; omega) (F84_below HF.out HB.out) HI.out).mono ?_
  rintro e w1 ⟨rfl, hb1⟩
  have HB1 := Aside0.mk hb1
  clear hb1
  by_cases h1 : i = -1
  · have h := HH.out
    rw [if_pos h1] at h
    obtain rfl := Option.some.inj h
    have h1b : (i == -1) = true := by simpa using h1
    clear h HH
    go_wp2_with fail
    go_ret
    exact ⟨rfl, Kd.V_below (impl_solve.Rows.V HR.out HGF.out (by have := HCC.out; omega) (by have := HMAX.out; omega)) HB1.out, below_then HB.out HB.out.size HB1.out⟩
  · have h := HH.out
    rw [if_neg h1] at h
    have h1b : (i == -1) = false := by simpa using h1
    by_cases h2 : 0 ≤ i ∧ i < (xs.length : Int)
    rotate_left
    · rw [if_neg h2] at h; cases h
    rw [if_pos h2] at h
    obtain ⟨yr, hyr, h⟩ := Option.bind_eq_some_iff.mp h
    have h := Option.some.inj h
    obtain ⟨i0, rfl⟩ : ∃ i0 : Nat, i = (i0 : Int) := ⟨i.toNat, by omega⟩
    rw [Int.toNat_natCast] at hyr h
    have hw0 : wrap64 ((i0 : Int) + 1) = (i0 : Int) + 1 := by have := HMAX.out; unfold wrap64; omega
    have hM0 : impl_solve.Mid wF W w1 g cur.size vs i0 (xs.take i0) := by
      have hlv := HR.out.len
      refine ⟨⟨cur, vs.take i0, blk_below HR.out.hg HB1.out, rfl, by simp; omega, by simp; omega, fun t u ht => HR.out.at_ t u (by rw [List.take_append_drop] at ht; exact ht), fun t y u hy hu => ?_⟩, fun q hq _ => HB1.out.block q hq, below_then HB.out HB.out.size HB1.out, HB1.out.size⟩
      rw [List.getElem?_take] at hy hu
      split at hy
      · rw [if_pos (by assumption)] at hu; exact HR.out.row t y u hy hu
      · cases hy
    have HI0 := Aside0.mk h2.2
    have HM0 := Aside0.mk hM0
    have HYR := Aside0.mk hyr
    have HYS := Aside0.mk h
    clear hM0 hyr h h2 HH HB1 HC
    go_wp2_with fail
    go_loopg [5, 6] (xs.length - (i0 + 1)) (fun kq v5 v6 w' => ∃ (i j : Nat) (yj yr : List (List Int)), v5 = .int .i64 (i : Int) ∧ v6 = .int .i64 (j : Int) ∧ Aside0 (kq + j = xs.length) ∧ Aside0 (i < j) ∧ Aside0 (impl_solve.left φ (xs.drop j) = some yr) ∧ Aside0 (yj ++ yr = ys) ∧ Aside0 (impl_solve.Mid wF W w' g cur.size vs i yj))
    case atStart => exact ⟨i0, i0 + 1, xs.take i0, yr, rfl, (congrArg (Value.int .i64) (by have := HMAX.out; have := HI0.out; unfold wrap64; omega)), ⟨by have := HI0.out; omega⟩, ⟨by omega⟩, HYR, HYS, HM0⟩
    case round =>
      clear HYR HYS HM0 hw0
      obtain ⟨i, j, yj, yr, rfl, rfl, HK, HIJ, HYR, HYS, HM⟩ := hrel
      cases gk with
      | succ k1 =>
        have hj : j < xs.length := by have := HK.out; omega
        obtain ⟨b, r, hb, hr, hyr⟩ := impl_solve.left_cons hj HYR.out
        have hjv : j < vs.length := by rw [HR.out.len]; exact hj
        obtain ⟨hx0, hf0⟩ := HM.out.cell j (by have := HIJ.out; omega) vs[j] (List.getElem?_eq_getElem hjv)
        have hKj := HR.out.row j xs[j] vs[j] (List.getElem?_eq_getElem hj) (List.getElem?_eq_getElem hjv)
        obtain ⟨Aj, cj, ej, hlj, hFj⟩ := Kd.FK_slice_open hKj
        have ej2 : vs[j] = .slice Aj xs[j].length cj := by injection ej
        rw [ej2] at hx0
        have hCj : Kd.C (Kd.int .i64) wr Aj xs[j].length xs[j] := Kd.F_now (Kd.F_step hFj (fun q hq hlt => HM.out.keep q hlt hq.2))
        have hji : (j : Int) < (xs.length : Int) := by omega
        have hji2 : decide ((j : Int) < (xs.length : Int)) = true := decide_eq_true hji
        have hji3 : decide (j < xs.length) = true := decide_eq_true hj
        obtain ⟨hc0, hfz0⟩ := HM.out.cell i (Nat.le_refl _) (vs[i]'(by have := HIJ.out; omega)) (List.getElem?_eq_getElem (by have := HIJ.out; omega))
        have HB' := Aside0.mk hb
        have HR' := Aside0.mk hr
        have HY' := Aside0.mk hyr
        have HCJ := Aside0.mk hCj
        have HLJ := Aside0.mk hlj
        have HKJ := Aside0.mk hKj
        have HEJ := Aside0.mk ej2
        obtain ⟨xj, hxj⟩ : ∃ x, x = xs[j] := ⟨_, rfl⟩
        rw [← hxj] at HB' HY' HCJ HLJ HKJ HEJ hx0
        clear hb hr hyr hCj hlj hKj hFj ej ej2 HYR hxj
        have HVI := Aside0.mk (show vs[i]? = some (vs[i]'(by have := HIJ.out; omega)) from List.getElem?_eq_getElem (by have := HIJ.out; omega))
        have hwj : (wrap64 ((j : Int) + 1)) = ((j + 1 : Nat) : Int) := by have := HMAX.out; unfold wrap64; omega
        have hwi : (wrap64 ((i : Int) + 1)) = ((i + 1 : Nat) : Int) := by have := HMAX.out; have := HIJ.out; unfold wrap64; omega
        have HWJ := Aside0.mk hwj
        have HWI := Aside0.mk hwi
        clear hwi hwj
        have hil : i < xs.length := by have := HIJ.out; omega
        have hil2 : (i : Int) < (xs.length : Int) := by omega
        cases b
        · have hyr2 : yr = xj :: r := by simpa using HY'.out
          have HYR2 := Aside0.mk hyr2
          clear hyr2 HY'
          go_wp2_with (first | ((with_reducible refine gate_fn rfl ?_); refine goesF_ (some 28) rfl rfl q #[.slice Aj xj.length cj] rfl (by first | rfl | (go_simp; done)) (by (try simp only [List.map_toArray, List.map_cons, List.map_nil]); first | done | rfl) ?_; refine Runs.mono (F84_below HF.out HM.out.hB Aj cj xj false wr (Below.refl _ _) HCJ.out HLJ.out HB'.out) ?_; rintro e w8 ⟨rfl, hb⟩; refine ⟨_, rfl, ?_⟩; have HM8 := Aside0.mk (HM.out.step hb); have HII := Aside0.mk (HM8.out.cell i (Nat.le_refl _) _ HVI.out); clear hb hc0 hfz0 hx0 hf0; obtain ⟨hc8, hf8⟩ := HII.out))
          have HM9 := Aside0.mk (HM8.out.put HGF.out (by have := HIJ.out; omega) HKJ.out)
          rw [HEJ.out] at HM9
          go_roundg k1
          case measure => omega
          case rel => exact ⟨i + 1, j + 1, yj ++ [xj], r, congrArg (Value.int .i64) HWI.out, congrArg (Value.int .i64) HWJ.out, ⟨by have := HK.out; omega⟩, ⟨by have := HIJ.out; omega⟩, HR', ⟨by rw [← HYS.out, HYR2.out]; simp⟩, HM9⟩
        · have hyr2 : yr = r := by simpa using HY'.out
          have HYR2 := Aside0.mk hyr2
          clear hyr2 HY'
          go_wp2_with (first | ((with_reducible refine gate_fn rfl ?_); refine goesF_ (some 28) rfl rfl q #[.slice Aj xj.length cj] rfl (by first | rfl | (go_simp; done)) (by (try simp only [List.map_toArray, List.map_cons, List.map_nil]); first | done | rfl) ?_; refine Runs.mono (F84_below HF.out HM.out.hB Aj cj xj true wr (Below.refl _ _) HCJ.out HLJ.out HB'.out) ?_; rintro e w8 ⟨rfl, hb⟩; refine ⟨_, rfl, ?_⟩; have HM8 := Aside0.mk (HM.out.step hb); have HII := Aside0.mk (HM8.out.cell i (Nat.le_refl _) _ HVI.out); clear hb hc0 hfz0 hx0 hf0; obtain ⟨hc8, hf8⟩ := HII.out))
          go_roundg k1
          case measure => omega
          case rel => exact ⟨i, j + 1, yj, r, rfl, congrArg (Value.int .i64) HWJ.out, ⟨by have := HK.out; omega⟩, ⟨by have := HIJ.out; omega⟩, HR', ⟨by rw [← HYS.out, HYR2.out]⟩, HM8⟩
      | zero =>
        have hj : j = xs.length := by have := HK.out; omega
        subst hj
        have hyr : yr = [] := by
          have h1 := HYR.out
          rw [List.drop_length] at h1
          exact (Option.some.inj h1).symm
        have hys : yj = ys := by rw [← HYS.out, hyr, List.append_nil]
        subst hys
        obtain ⟨⟨cur', kv, hg, hcs, hyl, hkl, hat, hrow⟩, hkeep, hBB, hsize⟩ := HM.out
        have hin : i < xs.length := HIJ.out
        have hji3 : decide (xs.length < xs.length) = false := by simp
        have hic : i ≤ xs.length := by omega
        have hic2 : i ≤ c - 1 := by have := HCC.out; omega
        have hne : ¬ (c - 1 = i) := by have := HCC.out; omega
        have hcl := fun ty => impl_solve.clear_run (P := Try.prog) (ty := ty) Try.underlying68 info22 (by decide) wr g (1 + i) (xs.length - i) (c - 1 - i) (by omega) (fun t ht => by rw [blk_cell hg]; have := HSZ.out; simp [Value.cells] at ht ⊢; omega) (fun t _ => blk_frozen hg _)
        have HCL := Aside0.mk hcl
        go_wp2_with fail
        go_ret
        have hzl : (Builtin.zeroCells #[Value.slice none 0 0] (xs.length - i)).toList.length = xs.length - i := by rw [impl_solve.zc_len]; simp
        obtain ⟨cur2, h3, h4, h5⟩ := setCells_row (Builtin.zeroCells #[Value.slice none 0 0] (xs.length - i)).toList (1 + i) wr cur' hg (by rw [hzl]; have := HSZ.out; omega)
        obtain ⟨s1, s2, s3, s4⟩ := setCells_same g (Builtin.zeroCells #[Value.slice none 0 0] (xs.length - i)).toList (1 + i) wr
        have hfar : ∀ k', k' ≠ g → (wr.setCells g (1 + i) (Builtin.zeroCells #[Value.slice none 0 0] (xs.length - i)).toList).heap[k']? = wr.heap[k']? := fun k' hk' => setCells_far _ _ k' hk'
        have hgr : wr.grownBy (wr.setCells g (1 + i) (Builtin.zeroCells #[Value.slice none 0 0] (xs.length - i)).toList) (some g) := ⟨s1, s2, s3, by rw [s4]; exact Nat.le_refl _, fun k' _ hk' => hfar k' (fun he => hk' (by rw [he]))⟩
        have hRows : impl_solve.Rows (wr.setCells g (1 + i) (Builtin.zeroCells #[Value.slice none 0 0] (xs.length - i)).toList) g (fun q => wF.heap.size ≤ q) cur2 kv yj := by
          refine ⟨h3, by omega, fun t u ht => ?_, fun t y u hy hu => ?_⟩
          · have htl : t < kv.length := (List.getElem?_eq_some_iff.1 ht).1
            rw [← Array.getElem?_toList, h5, List.append_assoc, List.getElem?_append_left (by rw [List.length_take, Array.length_toList]; have := HSZ.out; omega), List.getElem?_take, if_pos (by omega), Array.getElem?_toList]
            exact hat t u (by rw [List.getElem?_append_left htl]; exact ht)
          · exact Kd.FK_step (hrow t y u hy hu) (fun q hq hlt => (hfar q hq.2).trans (hkeep q hlt hq.2))
        refine ⟨by rw [← hyl]; rfl, impl_solve.Rows.V hRows HGF.out (by omega) (by have := HMAX.out; omega), hBB.grown hgr hBB.size (fun k hk => by injection hk with hk; subst hk; exact HGF.out)⟩
def impl_solve.f (k : Nat) (a0 : Int) (l1 : List S44) : Option (List (List Int)) := (impl_hidden.f k a0).bind fun xs => impl_solve.del k xs (fun b0 => impl_solve_1.f k b0 l1)
set_option maxHeartbeats 8000000 in
set_option maxRecDepth 100000 in
theorem impl_solve.calls (k : Nat) (a0 : Int) (A1 : Option Addr) (c1 : Nat) (l1 : List S44) (r : List (List Int)) (w : World) (hr1 : Kd.C k44 w A1 l1.length l1) (hc1 : l1.length ≤ c1) (h : impl_solve.f k a0 l1 = some r) :
    Calls Try.prog 101 #[.int .i64 a0, .slice A1 l1.length c1] w fun e w' => ∃ v0_ : Value, e = .returned (v0_) ∧ Kd.V (Kd.slice 3 (Kd.int .i64)) 22 w' w.heap.size (fun k_ => (w.heap.size ≤ k_)) v0_ r ∧ Below w.heap.size w w' := by
  obtain ⟨xs, hx, h⟩ := Option.bind_eq_some_iff.mp (show ((impl_hidden.f k a0).bind fun xs => impl_solve.del k xs (fun b0 => impl_solve_1.f k b0 l1)) = some r from h)
  have HX := Aside0.mk hx
  have HH := Aside0.mk h
  have HC := Aside0.mk hr1
  have HC1 := Aside0.mk hc1
  clear h hx hr1 hc1
  go_enter Try.func101, Try.ntmps101
  go_wp2_with (first | ((with_reducible refine gate_dst (N := 3) rfl ?_); refine box_event ?hg (N := 3) ?hd (cs := #[.slice A1 l1.length c1]) (t := 34) ?hr ?_; (case hd => rfl); (case hg => rfl); (case hr => first | (go_simp; done) | (go_simp; rfl)); intro gb hgb w2 hbox hb2; have HB2 := Aside0.mk hb2; have HBOX := Aside0.mk hbox; clear hb2 hgb hbox))
  refine (impl_hidden.calls k a0 xs w2 HX.out).mono ?_
  rintro e w3 ⟨g, c, rfl, ⟨x0, hs⟩, hb⟩
  have HS := Aside0.mk hs
  have HB3 := Aside0.mk hb
  clear hs hb
  go_wp2_with fail
  refine (impl_solve.delete k xs r _ (fun b0 => impl_solve_1.f k b0 l1) w2 w3 g c x0 HS.out HB3.out (impl_solve_1.asF k gb A1 c1 l1 w2 HBOX.out (Kd.C_below HC.out HB2.out) HC1.out) HH.out).mono ?_
  rintro e w4 ⟨rfl, hV, hb⟩
  have HV := Aside0.mk hV
  have HB4 := Aside0.mk hb
  clear hV hb
  go_wp2_with fail
  go_ret
  exact ⟨_, rfl, Kd.V_mono HV.out (fun q hq => Nat.le_trans HB2.out.size hq), below_step HB2.out HB4.out⟩
/-! ### impl_Solutions: function 59 -/
def impl_Solutions.f (k : Nat) (a0_0 : Int) (l0_1 : List (S44)) : Option ((List (List Int)) × Bool) := (impl_IsPuzzle.f k a0_0 l0_1).bind fun t289 => (if t289 = true then ((impl_solve.f k a0_0 l0_1).bind fun t290 => (some (t290, true))) else (some (([] : List (List Int)), false)))
set_option maxHeartbeats 8000000 in
set_option maxRecDepth 100000 in
theorem impl_Solutions.calls (k : Nat) (a0_0 : Int) (A0_1 : Option Addr) (c0_1 : Nat) (l0_1 : List (S44)) (r1 : List (List Int)) (r2 : Bool) (w : World) (hr0_1 : Kd.C k44 w A0_1 l0_1.length l0_1) (hc0_1 : l0_1.length ≤ c0_1) (h : impl_Solutions.f k a0_0 l0_1 = some (r1, r2)) :
    Calls Try.prog 59 #[.agg #[.int .i64 a0_0, .slice A0_1 l0_1.length c0_1]] w fun e w' => ∃ v0_ : Value, e = .returned (.tuple #[v0_, .bool r2]) ∧ Kd.V (Kd.slice 3 (Kd.int .i64)) 22 w' w.heap.size (fun k_ => (w.heap.size ≤ k_)) v0_ r1 ∧ Below w.heap.size w w' := by
 have hu36 := Try.underlying36
 have HR0_1 := Aside0.mk hr0_1
 have HC0_1 := Aside0.mk hc0_1
 clear hr0_1 hc0_1
 have HB := Aside0.mk (Below.refl w.heap.size w)
 have H : ((impl_IsPuzzle.f k a0_0 l0_1).bind fun t289 => (if t289 = true then ((impl_solve.f k a0_0 l0_1).bind fun t290 => (some (t290, true))) else (some (([] : List (List Int)), false)))) = some (r1, r2) := h
 clear h
 replace H := Option.bind_eq_some_iff.mp H
 obtain ⟨t289, A20, H⟩ := H
 replace H : (if t289 = true then ((impl_solve.f k a0_0 l0_1).bind fun t290 => (some (t290, true))) else (some (([] : List (List Int)), false))) = some (r1, r2) := H
 have A2 := Aside0.mk A20
 clear A20
 by_cases c3 : t289 = true
 ·subst c3
  have H1 : ((impl_solve.f k a0_0 l0_1).bind fun t290 => (some (t290, true))) = some (r1, r2) := by first | (rw [if_pos rfl] at H; exact H) | rfl
  clear H
  have H := H1
  clear H1
  replace H := Option.bind_eq_some_iff.mp H
  obtain ⟨t290, A40, H⟩ := H
  replace H : (some (t290, true)) = some (r1, r2) := H
  have A4 := Aside0.mk A40
  clear A40
  simp only [Option.some.injEq, Prod.mk.injEq] at H
  obtain ⟨rfl, rfl⟩ := H
  go_enter Try.func59, Try.ntmps59
  go_wp2_with (first | ((with_reducible refine gate_dst (N := 1) rfl ?_); refine box_event ?hg (N := 1) ?hd (cs := #[.int .i64 a0_0, .slice A0_1 l0_1.length c0_1]) (t := 36) ?hr ?_; (case hd => rfl); (case hg => rfl); (case hr => first | (go_simp; done) | (go_simp; rfl)); intro gb288 hg w5 hbox hb; have n0_ := Aside0.mk (below_step (by repeat (first | (with_reducible first | exact HB.out | apply below_alloc | apply pw_below_drewN | apply below_drew1) | exact HB.out)) hb); have n1_ := Aside0.mk (hbox); have n2_ := Aside0.mk ((by rw [hg]; exact (below_size (by repeat (first | (with_reducible first | exact HB.out | apply below_alloc | apply pw_below_drewN | apply below_drew1) | exact HB.out))) : w.heap.size ≤ gb288)); have n3_ := Aside0.mk ((by rw [hg]; exact (below_size (by repeat (first | (with_reducible first | exact HB.out | apply below_alloc | apply pw_below_drewN | apply below_drew1) | exact HB.out))) : w.heap.size ≤ gb288)); clear HB; have HB := n0_; have BK288 := n1_; have GW288 := n2_; have GE288 := n3_; clear n0_ n1_ n2_ n3_; clear hb hbox hg; have hcz6_0 : w5.cell? ⟨gb288, 0, none⟩ = some (.int .i64 a0_0) := (blk_cell BK288.out 0).trans rfl; have hcz6_1 : w5.cell? ⟨gb288, 1, none⟩ = some (.slice A0_1 l0_1.length c0_1) := (blk_cell BK288.out 1).trans rfl; have hfz6_0 := blk_frozen BK288.out 0; have hfz6_1 := blk_frozen BK288.out 1) | ((with_reducible refine gate_callee (f := 27) rfl ?_); refine goesL_ (some 5) rfl rfl Try.func27 (by kernel_rfl) rfl #[.agg #[.int .i64 a0_0, .slice A0_1 l0_1.length c0_1]] rfl (by (try simp only [List.map_toArray, List.map_cons, List.map_nil]); first | done | rfl | (simp only [List.length_drop, List.length_take]; rfl)) ?_; (with_reducible refine (impl_IsPuzzle.calls k a0_0 _ _ l0_1 true _ ?side1 ?side2 A2.out).mono ?_); (case side1 => repeat (first | exact (Kd.C_below HR0_1.out HB.out) | (with_reducible refine Kd.C_alloc ?_ _) | (with_reducible refine Kd.C_drewN ?_ _) | (with_reducible refine Kd.C_drew ?_))); (case side2 => exact HC0_1.out); rintro e w7 ⟨rfl, hb⟩; refine ⟨_, rfl, ?_⟩; have n0_ := Aside0.mk (blk_below (g := gb288) (o := .cells #[.int .i64 a0_0, .slice A0_1 l0_1.length c0_1] 36 (0, 0)) (by (with_reducible repeat (first | refine bN ?_ _ | refine bD ?_ | refine bA ?_ _)); exact BK288.out) hb); have n1_ := Aside0.mk (below_step (by repeat (first | (with_reducible first | exact HB.out | apply below_alloc | apply pw_below_drewN | apply below_drew1 | refine below_set ?_ GE288.out) | exact HB.out)) hb); clear BK288; clear HB; have BK288 := n0_; have HB := n1_; clear n0_ n1_; (try clear hb); (try clear hb2); (try clear hk); (try clear hi); have hcz8_0 : w7.cell? ⟨gb288, 0, none⟩ = some (.int .i64 a0_0) := (blk_cell BK288.out 0).trans rfl; have hcz8_1 : w7.cell? ⟨gb288, 1, none⟩ = some (.slice A0_1 l0_1.length c0_1) := (blk_cell BK288.out 1).trans rfl; have hfz8_0 := blk_frozen BK288.out 0; have hfz8_1 := blk_frozen BK288.out 1) | ((with_reducible refine gate_callee (f := 101) rfl ?_); refine goesL_ (some 11) rfl rfl Try.func101 (by kernel_rfl) rfl #[.int .i64 a0_0, .slice A0_1 l0_1.length c0_1] rfl (by (try simp only [List.map_toArray, List.map_cons, List.map_nil]); first | done | rfl | (simp only [List.length_drop, List.length_take]; rfl)) ?_; (with_reducible refine (impl_solve.calls k a0_0 _ _ l0_1 t290 _ ?side1 ?side2 A4.out).mono ?_); (case side1 => repeat (first | exact (Kd.C_below HR0_1.out HB.out) | (with_reducible refine Kd.C_alloc ?_ _) | (with_reducible refine Kd.C_drewN ?_ _) | (with_reducible refine Kd.C_drew ?_))); (case side2 => exact HC0_1.out); rintro e w9 ⟨v291, rfl, ho0, hb⟩; refine ⟨_, rfl, ?_⟩; have n0_ := Aside0.mk (Kd.V_lower (Kd.V_mono (ok' := fun k_ => (w.heap.size ≤ k_) ∧ k_ ≠ gb288) ho0 (fun k_ hk_ => ⟨(Nat.le_trans (below_size (by repeat (first | (with_reducible first | exact HB.out | apply below_alloc | apply pw_below_drewN | apply below_drew1 | refine below_set ?_ GE288.out) | exact HB.out))) hk_), (Kd.freshB (g := gb288) (o := .cells #[.int .i64 a0_0, .slice A0_1 l0_1.length c0_1] 36 (0, 0)) (by (with_reducible repeat (first | refine bN ?_ _ | refine bD ?_ | refine bA ?_ _)); exact BK288.out) k_ hk_)⟩)) (below_size (by repeat (first | (with_reducible first | exact HB.out | apply below_alloc | apply pw_below_drewN | apply below_drew1 | refine below_set ?_ GE288.out) | exact HB.out)))); have n1_ := Aside0.mk (blk_below (g := gb288) (o := .cells #[.int .i64 a0_0, .slice A0_1 l0_1.length c0_1] 36 (0, 0)) (by (with_reducible repeat (first | refine bN ?_ _ | refine bD ?_ | refine bA ?_ _)); exact BK288.out) hb); have n2_ := Aside0.mk (below_step (by repeat (first | (with_reducible first | exact HB.out | apply below_alloc | apply pw_below_drewN | apply below_drew1 | refine below_set ?_ GE288.out) | exact HB.out)) hb); clear BK288; clear HB; have HO292 := n0_; have BK288 := n1_; have HB := n2_; clear n0_ n1_ n2_; (try clear hb); (try clear hb2); (try clear hk); (try clear hi); (try clear ho0)))
  go_ret2
  exact ⟨_, by first | rfl | (simp [errW_none, errW_some] <;> rfl) | (simp [*, errW_none, errW_some] <;> rfl), by (with_reducible repeat (first | apply Kd.V_alloc | apply Kd.V_drewN | apply Kd.V_drew)); exact Kd.V_mono HO292.out (fun _ hk => hk.1), by repeat (first | (with_reducible first | exact HB.out | apply below_alloc | apply pw_below_drewN | apply below_drew1 | refine below_set ?_ GE288.out) | exact HB.out)⟩
 ·replace c3 := Bool.eq_false_iff.mpr c3
  subst c3
  have H1 : (some (([] : List (List Int)), false)) = some (r1, r2) := by first | (rw [if_neg (show ¬ (false = true) by decide)] at H; exact H) | rfl
  clear H
  have H := H1
  clear H1
  simp only [Option.some.injEq, Prod.mk.injEq] at H
  obtain ⟨rfl, rfl⟩ := H
  go_enter Try.func59, Try.ntmps59
  go_wp2_with (first | ((with_reducible refine gate_dst (N := 1) rfl ?_); refine box_event ?hg (N := 1) ?hd (cs := #[.int .i64 a0_0, .slice A0_1 l0_1.length c0_1]) (t := 36) ?hr ?_; (case hd => rfl); (case hg => rfl); (case hr => first | (go_simp; done) | (go_simp; rfl)); intro gb288 hg w10 hbox hb; have n0_ := Aside0.mk (below_step (by repeat (first | (with_reducible first | exact HB.out | apply below_alloc | apply pw_below_drewN | apply below_drew1) | exact HB.out)) hb); have n1_ := Aside0.mk (hbox); have n2_ := Aside0.mk ((by rw [hg]; exact (below_size (by repeat (first | (with_reducible first | exact HB.out | apply below_alloc | apply pw_below_drewN | apply below_drew1) | exact HB.out))) : w.heap.size ≤ gb288)); have n3_ := Aside0.mk ((by rw [hg]; exact (below_size (by repeat (first | (with_reducible first | exact HB.out | apply below_alloc | apply pw_below_drewN | apply below_drew1) | exact HB.out))) : w.heap.size ≤ gb288)); clear HB; have HB := n0_; have BK288 := n1_; have GW288 := n2_; have GE288 := n3_; clear n0_ n1_ n2_ n3_; clear hb hbox hg; have hcz11_0 : w10.cell? ⟨gb288, 0, none⟩ = some (.int .i64 a0_0) := (blk_cell BK288.out 0).trans rfl; have hcz11_1 : w10.cell? ⟨gb288, 1, none⟩ = some (.slice A0_1 l0_1.length c0_1) := (blk_cell BK288.out 1).trans rfl; have hfz11_0 := blk_frozen BK288.out 0; have hfz11_1 := blk_frozen BK288.out 1) | ((with_reducible refine gate_callee (f := 27) rfl ?_); refine goesL_ (some 5) rfl rfl Try.func27 (by kernel_rfl) rfl #[.agg #[.int .i64 a0_0, .slice A0_1 l0_1.length c0_1]] rfl (by (try simp only [List.map_toArray, List.map_cons, List.map_nil]); first | done | rfl | (simp only [List.length_drop, List.length_take]; rfl)) ?_; (with_reducible refine (impl_IsPuzzle.calls k a0_0 _ _ l0_1 false _ ?side1 ?side2 A2.out).mono ?_); (case side1 => repeat (first | exact (Kd.C_below HR0_1.out HB.out) | (with_reducible refine Kd.C_alloc ?_ _) | (with_reducible refine Kd.C_drewN ?_ _) | (with_reducible refine Kd.C_drew ?_))); (case side2 => exact HC0_1.out); rintro e w12 ⟨rfl, hb⟩; refine ⟨_, rfl, ?_⟩; have n0_ := Aside0.mk (blk_below (g := gb288) (o := .cells #[.int .i64 a0_0, .slice A0_1 l0_1.length c0_1] 36 (0, 0)) (by (with_reducible repeat (first | refine bN ?_ _ | refine bD ?_ | refine bA ?_ _)); exact BK288.out) hb); have n1_ := Aside0.mk (below_step (by repeat (first | (with_reducible first | exact HB.out | apply below_alloc | apply pw_below_drewN | apply below_drew1 | refine below_set ?_ GE288.out) | exact HB.out)) hb); clear BK288; clear HB; have BK288 := n0_; have HB := n1_; clear n0_ n1_; (try clear hb); (try clear hb2); (try clear hk); (try clear hi)))
  go_ret2
  exact ⟨_, by first | rfl | (simp [errW_none, errW_some] <;> rfl) | (simp [*, errW_none, errW_some] <;> rfl), (by exact Kd.V_nil _ _ _ _ _), by repeat (first | (with_reducible first | exact HB.out | apply below_alloc | apply pw_below_drewN | apply below_drew1 | refine below_set ?_ GE288.out) | exact HB.out)⟩

/-! ### impl_SureNumbers: function 64 -/
mutual
def impl_SureNumbers.l0 : Nat → List Int → List (List Int) → Int → Int → Option (List Int × Bool)
  | 0, _, _, _, _ => none
  | k + 1, x6, x23, x24, x25 => if x25 < x24 then (if 0 ≤ x25 then (if x25 < (x23.length : Int) then (impl_SureNumbers.l1 k x6 x23 x24 x25 (rd_L3 x23 x25) ((rd_L3 x23 x25).length : Int) 0) else (none)) else (none)) else (some (x6, true))
def impl_SureNumbers.l1 : Nat → List Int → List (List Int) → Int → Int → List Int → Int → Int → Option (List Int × Bool)
  | 0, _, _, _, _, _, _, _ => none
  | k + 1, x6, x23, x24, x25, x29, x30, x31 => if x31 < x30 then (if 0 ≤ x31 then (if x31 < (x29.length : Int) then (if x31 < (x6.length : Int) then (if (rd x29 x31) = (rd x6 x31) then (impl_SureNumbers.l1 k x6 x23 x24 x25 x29 x30 (wrap64 (x31 + 1))) else (impl_SureNumbers.l1 k (x6.set (x31 : Int).toNat (-1)) x23 x24 x25 x29 x30 (wrap64 (x31 + 1)))) else (none)) else (none)) else (none)) else (impl_SureNumbers.l0 k x6 x23 x24 (wrap64 (x25 + 1)))
end
def impl_SureNumbers.f (k : Nat) (a0_0 : Int) (l0_1 : List (S44)) : Option (List Int × Bool) := (impl_Solutions.f k a0_0 l0_1).bind fun bt294 => (if (bt294.1.length : Int) = 0 then (some (([] : List Int), false)) else (if 0 < (bt294.1.length : Int) then ((slices_Clone_sint_int.f (rd_L3 bt294.1 0)).bind fun t299 => (impl_SureNumbers.l0 k t299 bt294.1 (bt294.1.length : Int) 0)) else (none)))
set_option maxHeartbeats 8000000 in
set_option maxRecDepth 100000 in
theorem impl_SureNumbers.calls (k : Nat) (a0_0 : Int) (A0_1 : Option Addr) (c0_1 : Nat) (l0_1 : List (S44)) (r1 : List Int) (r2 : Bool) (w : World) (hr0_1 : Kd.C k44 w A0_1 l0_1.length l0_1) (hc0_1 : l0_1.length ≤ c0_1) (h : impl_SureNumbers.f k a0_0 l0_1 = some (r1, r2)) :
    Calls Try.prog 64 #[.agg #[.int .i64 a0_0, .slice A0_1 l0_1.length c0_1]] w fun e w' => ∃ v0_ : Value, e = .returned (.tuple #[v0_, .bool r2]) ∧ Kd.R (Kd.int .i64) 3 w' w.heap.size (fun _ => True) v0_ r1 ∧ Below w.heap.size w w' := by
 have hu36 := Try.underlying36
 have HR0_1 := Aside0.mk hr0_1
 have HC0_1 := Aside0.mk hc0_1
 clear hr0_1 hc0_1
 have HB := Aside0.mk (Below.refl w.heap.size w)
 have H : ((impl_Solutions.f k a0_0 l0_1).bind fun bt294 => (if (bt294.1.length : Int) = 0 then (some (([] : List Int), false)) else (if 0 < (bt294.1.length : Int) then ((slices_Clone_sint_int.f (rd_L3 bt294.1 0)).bind fun t299 => (impl_SureNumbers.l0 k t299 bt294.1 (bt294.1.length : Int) 0)) else (none)))) = some (r1, r2) := h
 clear h
 replace H := Option.bind_eq_some_iff.mp H
 obtain ⟨⟨t294, t297⟩, A20, H⟩ := H
 replace H : (if (t294.length : Int) = 0 then (some (([] : List Int), false)) else (if 0 < (t294.length : Int) then ((slices_Clone_sint_int.f (rd_L3 t294 0)).bind fun t299 => (impl_SureNumbers.l0 k t299 t294 (t294.length : Int) 0)) else (none))) = some (r1, r2) := H
 have A2 := Aside0.mk A20
 clear A20
 by_cases c3 : (t294.length : Int) = 0
 ·rw [if_pos c3] at H
  have c3b0 : ((t294.length : Int) == 0) = true := beq_iff_eq.mpr c3
  have c3b1 : ((t294.length : Int) != 0) = false := bne_eq_false_iff_eq.mpr c3
  clear c3
  simp only [Option.some.injEq, Prod.mk.injEq] at H
  obtain ⟨rfl, rfl⟩ := H
  go_enter Try.func64, Try.ntmps64
  go_wp2_with (first | ((with_reducible refine gate_dst (N := 1) rfl ?_); refine box_event ?hg (N := 1) ?hd (cs := #[.int .i64 a0_0, .slice A0_1 l0_1.length c0_1]) (t := 36) ?hr ?_; (case hd => rfl); (case hg => rfl); (case hr => first | (go_simp; done) | (go_simp; rfl)); intro gb293 hg w4 hbox hb; have n0_ := Aside0.mk (below_step (by repeat (first | (with_reducible first | exact HB.out | apply below_alloc | apply pw_below_drewN | apply below_drew1) | exact HB.out)) hb); have n1_ := Aside0.mk (hbox); have n2_ := Aside0.mk ((by rw [hg]; exact (below_size (by repeat (first | (with_reducible first | exact HB.out | apply below_alloc | apply pw_below_drewN | apply below_drew1) | exact HB.out))) : w.heap.size ≤ gb293)); have n3_ := Aside0.mk ((by rw [hg]; exact (below_size (by repeat (first | (with_reducible first | exact HB.out | apply below_alloc | apply pw_below_drewN | apply below_drew1) | exact HB.out))) : w.heap.size ≤ gb293)); clear HB; have HB := n0_; have BK293 := n1_; have GW293 := n2_; have GE293 := n3_; clear n0_ n1_ n2_ n3_; clear hb hbox hg; have hcz5_0 : w4.cell? ⟨gb293, 0, none⟩ = some (.int .i64 a0_0) := (blk_cell BK293.out 0).trans rfl; have hcz5_1 : w4.cell? ⟨gb293, 1, none⟩ = some (.slice A0_1 l0_1.length c0_1) := (blk_cell BK293.out 1).trans rfl; have hfz5_0 := blk_frozen BK293.out 0; have hfz5_1 := blk_frozen BK293.out 1) | ((with_reducible refine gate_callee (f := 59) rfl ?_); refine goesL_ (some 13) rfl rfl Try.func59 (by kernel_rfl) rfl #[.agg #[.int .i64 a0_0, .slice A0_1 l0_1.length c0_1]] rfl (by (try simp only [List.map_toArray, List.map_cons, List.map_nil]); first | done | rfl | (simp only [List.length_drop, List.length_take]; rfl)) ?_; (with_reducible refine (impl_Solutions.calls k a0_0 _ _ l0_1 t294 t297 _ ?side1 ?side2 A2.out).mono ?_); (case side1 => repeat (first | exact (Kd.C_below HR0_1.out HB.out) | (with_reducible refine Kd.C_alloc ?_ _) | (with_reducible refine Kd.C_drewN ?_ _) | (with_reducible refine Kd.C_drew ?_))); (case side2 => exact HC0_1.out); rintro e w6 ⟨v295, rfl, ho0, hb⟩; refine ⟨_, rfl, ?_⟩; have n0_ := Aside0.mk (Kd.V_lower (Kd.V_mono (ok' := fun k_ => k_ ≠ gb293) ho0 (fun k_ hk_ => (Kd.freshB (g := gb293) (o := .cells #[.int .i64 a0_0, .slice A0_1 l0_1.length c0_1] 36 (0, 0)) (by (with_reducible repeat (first | refine bN ?_ _ | refine bD ?_ | refine bA ?_ _)); exact BK293.out) k_ hk_))) (below_size (by repeat (first | (with_reducible first | exact HB.out | apply below_alloc | apply pw_below_drewN | apply below_drew1 | refine below_set ?_ GE293.out) | exact HB.out)))); have n1_ := Aside0.mk (blk_below (g := gb293) (o := .cells #[.int .i64 a0_0, .slice A0_1 l0_1.length c0_1] 36 (0, 0)) (by (with_reducible repeat (first | refine bN ?_ _ | refine bD ?_ | refine bA ?_ _)); exact BK293.out) hb); have n2_ := Aside0.mk (below_step (by repeat (first | (with_reducible first | exact HB.out | apply below_alloc | apply pw_below_drewN | apply below_drew1 | refine below_set ?_ GE293.out) | exact HB.out)) hb); clear BK293; clear HB; have HO296 := n0_; have BK293 := n1_; have HB := n2_; clear n0_ n1_ n2_; (try clear hb); (try clear hb2); (try clear hk); (try clear hi); (try clear ho0); obtain ⟨Ao7, co7, eo7⟩ := Kd.V_slice HO296.out; subst eo7))
  go_ret2
  exact ⟨_, by first | rfl | (simp [errW_none, errW_some] <;> rfl) | (simp [*, errW_none, errW_some] <;> rfl), by first | exact Kd.R_nil _ _ _ _ _ | exact Kd.N_nil _ _ _ _ _ | exact Kd.V_nil _ _ _ _ _ | exact Kd.Q_nil _ _ _ _ _ | exact Kd.S_nil _ _ _ _ _, by repeat (first | (with_reducible first | exact HB.out | apply below_alloc | apply pw_below_drewN | apply below_drew1 | refine below_set ?_ GE293.out) | exact HB.out)⟩
 ·rw [if_neg c3] at H
  have c3b0 : ((t294.length : Int) == 0) = false := beq_eq_false_iff_ne.mpr c3
  have c3b1 : ((t294.length : Int) != 0) = true := bne_iff_ne.mpr c3
  have c3b2 : ¬ (t294 = []) := fun h_ => c3 (by rw [h_]; rfl)
  by_cases c8 : 0 < (t294.length : Int)
  rotate_left
  ·rw [if_neg c8] at H
   exact absurd H (by simp)
  rw [if_pos c8] at H
  have c8b0 : decide (0 < (t294.length : Int)) = true := decide_eq_true c8
  have c8b1 : decide (0 < t294.length) = true := decide_eq_true (by omega)
  clear c8
  replace H := Option.bind_eq_some_iff.mp H
  obtain ⟨t299, A90, H⟩ := H
  replace H : (impl_SureNumbers.l0 k t299 t294 (t294.length : Int) 0) = some (r1, r2) := H
  have A9 := Aside0.mk A90
  clear A90
  have H' := Aside0.mk H
  clear H
  go_enter Try.func64, Try.ntmps64
  go_wp2_with (first | ((with_reducible refine gate_dst (N := 1) rfl ?_); refine box_event ?hg (N := 1) ?hd (cs := #[.int .i64 a0_0, .slice A0_1 l0_1.length c0_1]) (t := 36) ?hr ?_; (case hd => rfl); (case hg => rfl); (case hr => first | (go_simp; done) | (go_simp; rfl)); intro gb293 hg w10 hbox hb; have n0_ := Aside0.mk (below_step (by repeat (first | (with_reducible first | exact HB.out | apply below_alloc | apply pw_below_drewN | apply below_drew1) | exact HB.out)) hb); have n1_ := Aside0.mk (hbox); have n2_ := Aside0.mk ((by rw [hg]; exact (below_size (by repeat (first | (with_reducible first | exact HB.out | apply below_alloc | apply pw_below_drewN | apply below_drew1) | exact HB.out))) : w.heap.size ≤ gb293)); have n3_ := Aside0.mk ((by rw [hg]; exact (below_size (by repeat (first | (with_reducible first | exact HB.out | apply below_alloc | apply pw_below_drewN | apply below_drew1) | exact HB.out))) : w.heap.size ≤ gb293)); clear HB; have HB := n0_; have BK293 := n1_; have GW293 := n2_; have GE293 := n3_; clear n0_ n1_ n2_ n3_; clear hb hbox hg; have hcz11_0 : w10.cell? ⟨gb293, 0, none⟩ = some (.int .i64 a0_0) := (blk_cell BK293.out 0).trans rfl; have hcz11_1 : w10.cell? ⟨gb293, 1, none⟩ = some (.slice A0_1 l0_1.length c0_1) := (blk_cell BK293.out 1).trans rfl; have hfz11_0 := blk_frozen BK293.out 0; have hfz11_1 := blk_frozen BK293.out 1) | ((with_reducible refine gate_callee (f := 59) rfl ?_); refine goesL_ (some 13) rfl rfl Try.func59 (by kernel_rfl) rfl #[.agg #[.int .i64 a0_0, .slice A0_1 l0_1.length c0_1]] rfl (by (try simp only [List.map_toArray, List.map_cons, List.map_nil]); first | done | rfl | (simp only [List.length_drop, List.length_take]; rfl)) ?_; (with_reducible refine (impl_Solutions.calls k a0_0 _ _ l0_1 t294 t297 _ ?side1 ?side2 A2.out).mono ?_); (case side1 => repeat (first | exact (Kd.C_below HR0_1.out HB.out) | (with_reducible refine Kd.C_alloc ?_ _) | (with_reducible refine Kd.C_drewN ?_ _) | (with_reducible refine Kd.C_drew ?_))); (case side2 => exact HC0_1.out); rintro e w12 ⟨v295, rfl, ho0, hb⟩; refine ⟨_, rfl, ?_⟩; have n0_ := Aside0.mk (Kd.V_lower (Kd.V_mono (ok' := fun k_ => k_ ≠ gb293) ho0 (fun k_ hk_ => (Kd.freshB (g := gb293) (o := .cells #[.int .i64 a0_0, .slice A0_1 l0_1.length c0_1] 36 (0, 0)) (by (with_reducible repeat (first | refine bN ?_ _ | refine bD ?_ | refine bA ?_ _)); exact BK293.out) k_ hk_))) (below_size (by repeat (first | (with_reducible first | exact HB.out | apply below_alloc | apply pw_below_drewN | apply below_drew1 | refine below_set ?_ GE293.out) | exact HB.out)))); have n1_ := Aside0.mk (blk_below (g := gb293) (o := .cells #[.int .i64 a0_0, .slice A0_1 l0_1.length c0_1] 36 (0, 0)) (by (with_reducible repeat (first | refine bN ?_ _ | refine bD ?_ | refine bA ?_ _)); exact BK293.out) hb); have n2_ := Aside0.mk (below_step (by repeat (first | (with_reducible first | exact HB.out | apply below_alloc | apply pw_below_drewN | apply below_drew1 | refine below_set ?_ GE293.out) | exact HB.out)) hb); clear BK293; clear HB; have HO296 := n0_; have BK293 := n1_; have HB := n2_; clear n0_ n1_ n2_; (try clear hb); (try clear hb2); (try clear hk); (try clear hi); (try clear ho0); obtain ⟨Ao13, co13, eo13⟩ := Kd.V_slice HO296.out; subst eo13; have p298 : 0 ≤ (0 : Int) := (by omega); have q298 : 0 < (t294.length : Int) := of_decide_eq_true (by first | (with_reducible assumption) | assumption); obtain ⟨ad298, A298_0, c298_0, e298, hx298_0, hl298_0, hi298_0⟩ := at_L3 (Kd.V_reads' HO296.out).2.2 0 p298 q298; cases e298; obtain ⟨ce298, hce298, hMe298, hcc298⟩ := Kd.V_get HO296.out [] 0 p298 (by first | exact q298 | exact of_decide_eq_true (by first | (with_reducible assumption) | assumption) | (have e_ := (Kd.V_reads' HO296.out).1; omega)); obtain ⟨ua298_0, uc298_0, rfl, ul298_0, ge298_0⟩ := Kd.FK_slice_open hMe298; have hv298_0 := hcc298 0 _ rfl; rw [Nat.add_zero, show ((Kd.slice 3 (Kd.int .i64))).sz = 1 from rfl, Nat.mul_one] at hv298_0; replace hv298_0 := Option.some.inj (hv298_0.symm.trans hx298_0); injection hv298_0 with hva_ hvn_ hvc_; rw [hva_] at ge298_0; rw [hvc_] at ul298_0; have HL298_0 := Aside0.mk (show Kd.V (Kd.int .i64) 3 _ w.heap.size _ _ (rd_L3 t294 0) from Kd.V_mk ul298_0 ge298_0); clear hva_ hvn_ hvc_ ge298_0 ul298_0; clear hcc298 hce298; have qi298 : (0 < t294.length) = True := eq_true (by omega); (try rw [show ((0 : Int)).toNat = 0 from rfl] at hx298_0); (try rw [Addr.add_zero'] at hx298_0); have HR298_0 := Aside0.mk hi298_0; have HC298_0 := Aside0.mk hl298_0; clear hi298_0 hl298_0; replace p298 := eq_true p298; replace q298 := eq_true q298) | ((with_reducible refine gate_callee (f := 105) rfl ?_); refine goesL_ (some 22) rfl rfl Try.func105 (by kernel_rfl) rfl #[.slice A298_0 (rd_L3 t294 0).length c298_0] rfl (by (try simp only [List.map_toArray, List.map_cons, List.map_nil]); first | done | rfl | (simp only [List.length_drop, List.length_take]; rfl)) ?_; (with_reducible refine (slices_Clone_sint_int.calls _ _ (rd_L3 t294 0) t299 _ ?side1 ?side2 A9.out).mono ?_); (case side1 => repeat (first | exact (by repeat (first | (with_reducible exact HR298_0.out) | (with_reducible refine Kd.C_alloc ?_ _) | (with_reducible refine Kd.C_drewN ?_ _) | (with_reducible refine Kd.C_drew ?_) | exact HR298_0.out)) | (with_reducible refine Kd.C_alloc ?_ _) | (with_reducible refine Kd.C_drewN ?_ _) | (with_reducible refine Kd.C_drew ?_))); (case side2 => exact HC298_0.out); rintro e w14 ⟨v300, rfl, ho0, hb⟩; refine ⟨_, rfl, ?_⟩; have n0_ := Aside0.mk (Kd.V_elder' (by (with_reducible repeat (first | apply Kd.V_alloc | apply Kd.V_drewN | apply Kd.V_drew)); exact HO296.out) (Kd.R_base ho0) hb); have n1_ := Aside0.mk (Kd.V_elder' (by (with_reducible repeat (first | apply Kd.V_alloc | apply Kd.V_drewN | apply Kd.V_drew)); exact HL298_0.out) (Kd.R_base ho0) hb); have n2_ := Aside0.mk (Kd.R_lower ho0 (below_size (by repeat (first | (with_reducible first | exact HB.out | apply below_alloc | apply pw_below_drewN | apply below_drew1 | refine below_set ?_ GE293.out) | exact HB.out)))); have n3_ := Aside0.mk (blk_below (g := gb293) (o := .cells #[.int .i64 a0_0, .slice A0_1 l0_1.length c0_1] 36 (0, 0)) (by (with_reducible repeat (first | refine bN ?_ _ | refine bD ?_ | refine bA ?_ _)); exact BK293.out) hb); have n4_ := Aside0.mk (Kd.C_below (by repeat (first | (with_reducible exact HR298_0.out) | (with_reducible refine Kd.C_alloc ?_ _) | (with_reducible refine Kd.C_drewN ?_ _) | (with_reducible refine Kd.C_drew ?_) | exact HR298_0.out)) hb); have n5_ := Aside0.mk (below_step (by repeat (first | (with_reducible first | exact HB.out | apply below_alloc | apply pw_below_drewN | apply below_drew1 | refine below_set ?_ GE293.out) | exact HB.out)) hb); clear HO296; clear HL298_0; clear BK293; clear HR298_0; clear HB; have HO296 := n0_; have HL298_0 := n1_; have HO301 := n2_; have BK293 := n3_; have HR298_0 := n4_; have HB := n5_; clear n0_ n1_ n2_ n3_ n4_ n5_; (try clear hb); (try clear hb2); (try clear hk); (try clear hi); (try clear ho0)))
  go_loopg [25] k (fun kq v25 w' => ∃ (x6_1 : List Int) (x25_1 : Int), v25 = .int .i64 x25_1 ∧ Aside0 (impl_SureNumbers.l0 kq x6_1 t294 (t294.length : Int) x25_1 = some (r1, r2)) ∧ Aside0 (kq ≤ k) ∧ Aside0 (Kd.R (Kd.int .i64) 3 w' w.heap.size (fun _ => True) v300 x6_1) ∧ Aside0 (Kd.V (Kd.slice 3 (Kd.int .i64)) 22 w' w.heap.size (fun k_ => some k_ ≠ (v300 : Value).ownBlock ∧ k_ ≠ gb293) (.slice (some ad298) t294.length co13) t294) ∧ Aside0 (w'.heap[gb293]? = some (.cells #[.int .i64 a0_0, (.slice A0_1 l0_1.length c0_1)] 36 (0, 0))) ∧ Aside0 (Below w.heap.size w w'))
  case atStart => exact ⟨(t299), (0), (by first | rfl | (simp; done) | (simp [*]; done)), H', ⟨Nat.le_refl _⟩, ⟨by (with_reducible repeat (first | apply Kd.R_alloc | apply Kd.R_drewN | apply Kd.R_drew)); exact HO301.out⟩, ⟨by (with_reducible repeat (first | apply Kd.V_alloc | apply Kd.V_drewN | apply Kd.V_drew)); exact Kd.V_mono HO296.out (fun _ hk => ⟨hk.2, hk.1⟩)⟩, ⟨by (with_reducible repeat (first | refine bN ?_ _ | refine bD ?_ | refine bA ?_ _)); exact BK293.out⟩, ⟨by repeat (first | (with_reducible first | exact HB.out | apply below_alloc | apply pw_below_drewN | apply below_drew1 | refine below_set ?_ GE293.out) | exact HB.out)⟩⟩
  case round =>
   clear H'
   try clear c1
   try clear c2
   try clear p2
   try clear q2
   try clear hx2
   try clear qi2
   try clear c3
   try clear c3b0
   try clear c3b1
   try clear c3b2
   try clear c5
   try clear c6
   try clear c8
   try clear c8b0
   try clear c8b1
   try clear c10
   try clear hcz11_0
   try clear hcz11_1
   try clear hcz5_0
   try clear hcz5_1
   try clear hfz11_0
   try clear hfz11_1
   try clear hfz5_0
   try clear hfz5_1
   try clear hx298_0
   try clear p298
   try clear q298
   obtain ⟨x6_1, x25_1, rfl, HA, HK1, HO_6, HO_23, BK293, HB⟩ := hrel
   cases gk with
   | zero => exact absurd HA.out (by simp [impl_SureNumbers.l0])
   | succ k1 =>
    have H := HA.out
    clear HA
    simp only [impl_SureNumbers.l0] at H
    by_cases c15 : x25_1 < (t294.length : Int)
    ·rw [if_pos c15] at H
     have c15b0 : decide (x25_1 < (t294.length : Int)) = true := decide_eq_true c15
     clear c15
     by_cases c16 : 0 ≤ x25_1
     rotate_left
     ·rw [if_neg c16] at H
      exact absurd H (by simp)
     rw [if_pos c16] at H
     have c16b0 : decide (0 ≤ x25_1) = true := decide_eq_true c16
     clear c16
     by_cases c17 : x25_1 < (t294.length : Int)
     rotate_left
     ·rw [if_neg c17] at H
      exact absurd H (by simp)
     rw [if_pos c17] at H
     have c17b0 : decide (x25_1 < (t294.length : Int)) = true := decide_eq_true c17
     clear c17
     have H' := Aside0.mk H
     clear H
     have p302 : 0 ≤ (x25_1 : Int) := of_decide_eq_true (by first | (with_reducible assumption) | assumption)
     have q302 : x25_1 < (t294.length : Int) := of_decide_eq_true (by first | (with_reducible assumption) | assumption)
     obtain ⟨ad302, A302_0, c302_0, e302, hx302_0, hl302_0, hi302_0⟩ := at_L3 (Kd.V_reads' HO_23.out).2.2 x25_1 p302 q302
     obtain rfl : ad298 = ad302 := (by injection e302)
     obtain ⟨ce302, hce302, hMe302, hcc302⟩ := Kd.V_get HO_23.out [] x25_1 p302 (by first | exact q302 | exact of_decide_eq_true (by first | (with_reducible assumption) | assumption) | (have e_ := (Kd.V_reads' HO_23.out).1; omega))
     obtain ⟨ua302_0, uc302_0, rfl, ul302_0, ge302_0⟩ := Kd.FK_slice_open hMe302
     have hv302_0 := hcc302 0 _ rfl
     rw [Nat.add_zero, show ((Kd.slice 3 (Kd.int .i64))).sz = 1 from rfl, Nat.mul_one] at hv302_0
     replace hv302_0 := Option.some.inj (hv302_0.symm.trans hx302_0)
     injection hv302_0 with hva_ hvn_ hvc_
     rw [hva_] at ge302_0
     rw [hvc_] at ul302_0
     have HL302_0 := Aside0.mk (show Kd.V (Kd.int .i64) 3 _ w.heap.size _ _ (rd_L3 t294 x25_1) from Kd.V_mk ul302_0 ge302_0)
     clear hva_ hvn_ hvc_ ge302_0 ul302_0
     clear hcc302 hce302
     have HR302_0 := Aside0.mk hi302_0
     have HC302_0 := Aside0.mk hl302_0
     clear hi302_0 hl302_0
     replace p302 := eq_true p302
     replace q302 := eq_true q302
     go_wp2
     go_loopg [31] k1 (fun kq v31 w' => ∃ (x6_2 : List Int) (x31_2 : Int), v31 = .int .i64 x31_2 ∧ Aside0 (impl_SureNumbers.l1 kq x6_2 t294 (t294.length : Int) x25_1 (rd_L3 t294 x25_1) ((rd_L3 t294 x25_1).length : Int) x31_2 = some (r1, r2)) ∧ Aside0 (kq ≤ k1) ∧ Aside0 (Kd.R (Kd.int .i64) 3 w' w.heap.size (fun _ => True) v300 x6_2) ∧ Aside0 (Kd.V (Kd.slice 3 (Kd.int .i64)) 22 w' w.heap.size (fun k_ => some k_ ≠ (v300 : Value).ownBlock ∧ k_ ≠ gb293) (.slice (some ad298) t294.length co13) t294) ∧ Aside0 (Kd.V (Kd.int .i64) 3 w' w.heap.size (fun k_ => some k_ ≠ (v300 : Value).ownBlock ∧ k_ ≠ gb293) (.slice A302_0 (rd_L3 t294 x25_1).length c302_0) (rd_L3 t294 x25_1)) ∧ Aside0 (w'.heap[gb293]? = some (.cells #[.int .i64 a0_0, (.slice A0_1 l0_1.length c0_1)] 36 (0, 0))) ∧ Aside0 (Below w.heap.size w w'))
     case atStart => exact ⟨(x6_1), (0), (by first | rfl | (simp; done) | (simp [*]; done)), H', ⟨Nat.le_refl _⟩, ⟨by (with_reducible repeat (first | apply Kd.R_alloc | apply Kd.R_drewN | apply Kd.R_drew)); exact HO_6.out⟩, ⟨by (with_reducible repeat (first | apply Kd.V_alloc | apply Kd.V_drewN | apply Kd.V_drew)); exact HO_23.out⟩, ⟨by (with_reducible repeat (first | apply Kd.V_alloc | apply Kd.V_drewN | apply Kd.V_drew)); exact HL302_0.out⟩, ⟨by (with_reducible repeat (first | refine bN ?_ _ | refine bD ?_ | refine bA ?_ _)); exact BK293.out⟩, ⟨by repeat (first | (with_reducible first | exact HB.out | apply below_alloc | apply pw_below_drewN | apply below_drew1 | refine below_set ?_ GE293.out) | exact HB.out)⟩⟩
     case round =>
      clear H'
      try clear c1
      try clear c2
      try clear p2
      try clear q2
      try clear hx2
      try clear qi2
      try clear c3
      try clear c3b0
      try clear c3b1
      try clear c3b2
      try clear p3
      try clear q3
      try clear hx3
      try clear c5
      try clear c6
      try clear c8
      try clear c8b0
      try clear c8b1
      try clear c10
      try clear c15
      try clear c15b0
      try clear c16
      try clear c16b0
      try clear c17
      try clear c17b0
      try clear hcz11_0
      try clear hcz11_1
      try clear hcz5_0
      try clear hcz5_1
      try clear hfz11_0
      try clear hfz11_1
      try clear hfz5_0
      try clear hfz5_1
      try clear hx298_0
      try clear hx302_0
      try clear p2
      try clear p298
      try clear p302
      try clear q2
      try clear q298
      try clear q302
      obtain ⟨x6_2, x31_2, rfl, HA, HK2, HO_6, HO_23, HOE302x0, BK293, HB⟩ := hrel
      cases gk with
      | zero => exact absurd HA.out (by simp [impl_SureNumbers.l1])
      | succ k2 =>
       have H := HA.out
       clear HA
       simp only [impl_SureNumbers.l1] at H
       by_cases c18 : x31_2 < ((rd_L3 t294 x25_1).length : Int)
       ·rw [if_pos c18] at H
        have c18b0 : decide (x31_2 < ((rd_L3 t294 x25_1).length : Int)) = true := decide_eq_true c18
        clear c18
        by_cases c19 : 0 ≤ x31_2
        rotate_left
        ·rw [if_neg c19] at H
         exact absurd H (by simp)
        rw [if_pos c19] at H
        have c19b0 : decide (0 ≤ x31_2) = true := decide_eq_true c19
        clear c19
        by_cases c20 : x31_2 < ((rd_L3 t294 x25_1).length : Int)
        rotate_left
        ·rw [if_neg c20] at H
         exact absurd H (by simp)
        rw [if_pos c20] at H
        have c20b0 : decide (x31_2 < ((rd_L3 t294 x25_1).length : Int)) = true := decide_eq_true c20
        clear c20
        by_cases c21 : x31_2 < (x6_2.length : Int)
        rotate_left
        ·rw [if_neg c21] at H
         exact absurd H (by simp)
        rw [if_pos c21] at H
        have c21b0 : decide (x31_2 < (x6_2.length : Int)) = true := decide_eq_true c21
        clear c21
        by_cases c22 : (rd (rd_L3 t294 x25_1) x31_2) = (rd x6_2 x31_2)
        ·rw [if_pos c22] at H
         have c22b0 : ((rd (rd_L3 t294 x25_1) x31_2) == (rd x6_2 x31_2)) = true := beq_iff_eq.mpr c22
         have c22b1 : ((rd (rd_L3 t294 x25_1) x31_2) != (rd x6_2 x31_2)) = false := bne_eq_false_iff_eq.mpr c22
         clear c22
         have H' := Aside0.mk H
         clear H
         have p303 : 0 ≤ (x31_2 : Int) := of_decide_eq_true (by first | (with_reducible assumption) | assumption)
         have q303 : x31_2 < ((rd_L3 t294 x25_1).length : Int) := of_decide_eq_true (by first | (with_reducible assumption) | assumption)
         obtain ⟨ad303, e303, hx303_0⟩ := Kd.at_int (Kd.V_reads' HOE302x0.out).2.2 x31_2 p303 q303
         cases e303
         skip
         replace p303 := eq_true p303
         replace q303 := eq_true q303
         obtain ⟨Ao23, co23, eo23⟩ := Kd.R_slice HO_6.out
         subst eo23
         have p304 : 0 ≤ (x31_2 : Int) := of_decide_eq_true (by first | (with_reducible assumption) | assumption)
         have q304 : x31_2 < (x6_2.length : Int) := of_decide_eq_true (by first | (with_reducible assumption) | assumption)
         obtain ⟨ad304, e304, hx304_0⟩ := Kd.at_int (Kd.R_reads' HO_6.out).2.2 x31_2 p304 q304
         cases e304
         replace p304 := eq_true p304
         replace q304 := eq_true q304
         go_wp2
         go_roundg k2
         case measure => have := HK1.out; have := HK2.out; omega
         case rel => exact ⟨(x6_2), (wrap64 (x31_2 + 1)), (by first | rfl | (simp; done) | (simp [*]; done)), H', ⟨by have := HK1.out; have := HK2.out; omega⟩, ⟨by (with_reducible repeat (first | apply Kd.R_alloc | apply Kd.R_drewN | apply Kd.R_drew)); exact HO_6.out⟩, ⟨by (with_reducible repeat (first | apply Kd.V_alloc | apply Kd.V_drewN | apply Kd.V_drew)); exact HO_23.out⟩, ⟨by (with_reducible repeat (first | apply Kd.V_alloc | apply Kd.V_drewN | apply Kd.V_drew)); exact HOE302x0.out⟩, ⟨by (with_reducible repeat (first | refine bN ?_ _ | refine bD ?_ | refine bA ?_ _)); exact BK293.out⟩, ⟨by repeat (first | (with_reducible first | exact HB.out | apply below_alloc | apply pw_below_drewN | apply below_drew1 | refine below_set ?_ GE293.out) | exact HB.out)⟩⟩
        ·rw [if_neg c22] at H
         have c22b0 : ((rd (rd_L3 t294 x25_1) x31_2) == (rd x6_2 x31_2)) = false := beq_eq_false_iff_ne.mpr c22
         have c22b1 : ((rd (rd_L3 t294 x25_1) x31_2) != (rd x6_2 x31_2)) = true := bne_iff_ne.mpr c22
         obtain ⟨y305, hy305⟩ : ∃ y_ : List Int, y_ = (x6_2.set (x31_2 : Int).toNat (-1)) := ⟨_, rfl⟩
         replace H : (impl_SureNumbers.l1 k2 y305 t294 (t294.length : Int) x25_1 (rd_L3 t294 x25_1) ((rd_L3 t294 x25_1).length : Int) (wrap64 (x31_2 + 1))) = some (r1, r2) := by first | (rw [hy305]; with_reducible exact H) | (have H2_ := (Option.bind_some _ _).symm.trans H; rw [hy305]; with_reducible exact H2_) | (have H2_ := (Option.bind_some _ _).symm.trans H; with_reducible exact H2_) | with_reducible exact H | (rw [hy305]; exact H) | exact H
         have Ny305 := Aside0.mk hy305
         clear hy305
         have H' := Aside0.mk H
         clear H
         have p303 : 0 ≤ (x31_2 : Int) := of_decide_eq_true (by first | (with_reducible assumption) | assumption)
         have q303 : x31_2 < ((rd_L3 t294 x25_1).length : Int) := of_decide_eq_true (by first | (with_reducible assumption) | assumption)
         obtain ⟨ad303, e303, hx303_0⟩ := Kd.at_int (Kd.V_reads' HOE302x0.out).2.2 x31_2 p303 q303
         cases e303
         skip
         replace p303 := eq_true p303
         replace q303 := eq_true q303
         obtain ⟨Ao25, co25, eo25⟩ := Kd.R_slice HO_6.out
         subst eo25
         have p304 : 0 ≤ (x31_2 : Int) := of_decide_eq_true (by first | (with_reducible assumption) | assumption)
         have q304 : x31_2 < (x6_2.length : Int) := of_decide_eq_true (by first | (with_reducible assumption) | assumption)
         obtain ⟨ad304, e304, hx304_0⟩ := Kd.at_int (Kd.R_reads' HO_6.out).2.2 x31_2 p304 q304
         cases e304
         replace p304 := eq_true p304
         replace q304 := eq_true q304
         have p24 : 0 ≤ (x31_2 : Int) := of_decide_eq_true (by first | (with_reducible assumption) | assumption)
         have q24 : (x31_2 : Int) < ((x6_2.length : Int) : Int) := of_decide_eq_true (by first | (with_reducible assumption) | assumption)
         obtain ⟨go24, co24, eo24, gb24, gl24, cl24, HG24⟩ := Kd.R_form HO_6.out (by omega)
         (first | cases eo24 | (injection eo24 with ea_ en_ ec_; (first | subst ea_ | (injection ea_ with ea_; subst ea_)); subst ec_; clear en_))
         have GB24 := Aside0.mk gb24
         have GG24 := Aside0.mk HG24
         clear gb24 gl24 HG24
         (first | simp only [add_plain] at hx304_0 | skip)
         obtain ⟨hx24_0, hf24_0⟩ := Kd.R_celln 0 HO_6.out (x31_2 : Int) p24 q24
         replace p24 := eq_true p24
         replace q24 := eq_true q24
         have HP26 := Kd.R_putg HO_6.out (x31_2 : Int) (-1)
         go_wp2_with (first | ((with_reducible refine gate_store (t := 3) (p := 44) rfl ?_); refine store_event (t := 3) (p := 44) (v := ?vo_w27) (w1 := (wr.setCell ⟨go24, (x31_2 : Int).toNat, none⟩ (.int .i64 (-1)))) ?hg ?ho ?hn ?hr ?_; (case ho => rfl); (case hg => rfl); (case hn => rfl); (case hr => first | (go_simp; done) | (go_simp; rfl)); intro w27 hw; have hg : wr.grownBy w27 (some go24) := (by rw [hw]; exact HP26.2); have hp_ : Kd.R (Kd.int .i64) 3 w27 w.heap.size (fun _ => True) (.slice (some ⟨go24, 0, none⟩) x6_2.length co25) y305 := (by rw [hw, Ny305.out]; exact HP26.1); clear HP26; have n0_ := Aside0.mk (hp_); have n1_ := Aside0.mk (Kd.V_afterv (v := (.slice (some ⟨go24, 0, none⟩) x6_2.length co25)) (v1 := (.slice (some ⟨go24, 0, none⟩) x6_2.length co25)) (ok := (fun k_ => k_ ≠ gb293)) (by (with_reducible repeat (first | apply Kd.V_alloc | apply Kd.V_drewN | apply Kd.V_drew)); exact Kd.V_mono HO_23.out (fun _ hk => ⟨hk.2, hk.1⟩)) hg (.inl rfl)); have nE_ := Aside0.mk (Kd.V_afterv (v := (.slice (some ⟨go24, 0, none⟩) x6_2.length co25)) (v1 := (.slice (some ⟨go24, 0, none⟩) x6_2.length co25)) (ok := (fun k_ => k_ ≠ gb293)) (by (with_reducible repeat (first | apply Kd.V_alloc | apply Kd.V_drewN | apply Kd.V_drew)); exact Kd.V_mono HOE302x0.out (fun _ hk => ⟨hk.2, hk.1⟩)) hg (.inl rfl)); have n2_ := Aside0.mk (blk_grown (g := gb293) (o := .cells #[.int .i64 a0_0, .slice A0_1 l0_1.length c0_1] 36 (0, 0)) (by (with_reducible repeat (first | refine bN ?_ _ | refine bD ?_ | refine bA ?_ _)); exact BK293.out) hg (Kd.R_ne HO_6.out BK293.out (by decide))); have n3_ := Aside0.mk ((by rw [hw]; exact below_set (HB.out) GB24.out : Below w.heap.size w w27)); clear HO_6; clear HO_23 HOE302x0; clear BK293; clear HB; have HO_6 := n0_; have HO_23 := n1_; have HOE302x0 := nE_; have BK293 := n2_; have HB := n3_; clear nE_ n0_ n1_ n2_ n3_; clear hg hw hp_))
         go_roundg k2
         case measure => have := HK1.out; have := HK2.out; omega
         case rel => exact ⟨(y305), (wrap64 (x31_2 + 1)), (by first | rfl | (simp; done) | (simp [*]; done)), H', ⟨by have := HK1.out; have := HK2.out; omega⟩, ⟨by (with_reducible repeat (first | apply Kd.R_alloc | apply Kd.R_drewN | apply Kd.R_drew)); exact HO_6.out⟩, ⟨by (with_reducible repeat (first | apply Kd.V_alloc | apply Kd.V_drewN | apply Kd.V_drew)); exact Kd.V_mono HO_23.out (fun _ hk => ⟨hk.2, hk.1⟩)⟩, ⟨by (with_reducible repeat (first | apply Kd.V_alloc | apply Kd.V_drewN | apply Kd.V_drew)); exact Kd.V_mono HOE302x0.out (fun _ hk => ⟨hk.2, hk.1⟩)⟩, ⟨by (with_reducible repeat (first | refine bN ?_ _ | refine bD ?_ | refine bA ?_ _)); exact BK293.out⟩, ⟨by repeat (first | (with_reducible first | exact HB.out | apply below_alloc | apply pw_below_drewN | apply below_drew1 | refine below_set ?_ GE293.out) | exact HB.out)⟩⟩
       ·rw [if_neg c18] at H
        have c18b0 : decide (x31_2 < ((rd_L3 t294 x25_1).length : Int)) = false := decide_eq_false c18
        clear c18
        have H' := Aside0.mk H
        clear H
        go_wp2
        go_roundg k2
        case measure => have := HK1.out; have := HK2.out; omega
        case rel => exact ⟨(x6_2), (wrap64 (x25_1 + 1)), (by first | rfl | (simp; done) | (simp [*]; done)), H', ⟨by have := HK1.out; have := HK2.out; omega⟩, ⟨by (with_reducible repeat (first | apply Kd.R_alloc | apply Kd.R_drewN | apply Kd.R_drew)); exact HO_6.out⟩, ⟨by (with_reducible repeat (first | apply Kd.V_alloc | apply Kd.V_drewN | apply Kd.V_drew)); exact HO_23.out⟩, ⟨by (with_reducible repeat (first | refine bN ?_ _ | refine bD ?_ | refine bA ?_ _)); exact BK293.out⟩, ⟨by repeat (first | (with_reducible first | exact HB.out | apply below_alloc | apply pw_below_drewN | apply below_drew1 | refine below_set ?_ GE293.out) | exact HB.out)⟩⟩
    ·rw [if_neg c15] at H
     have c15b0 : decide (x25_1 < (t294.length : Int)) = false := decide_eq_false c15
     clear c15
     simp only [Option.some.injEq, Prod.mk.injEq] at H
     obtain ⟨rfl, rfl⟩ := H
     go_wp2
     go_ret2
     exact ⟨_, by first | rfl | (simp [errW_none, errW_some] <;> rfl) | (simp [*, errW_none, errW_some] <;> rfl), by (with_reducible repeat (first | apply Kd.R_alloc | apply Kd.R_drewN | apply Kd.R_drew)); exact HO_6.out, by repeat (first | (with_reducible first | exact HB.out | apply below_alloc | apply pw_below_drewN | apply below_drew1 | refine below_set ?_ GE293.out) | exact HB.out)⟩

end Go.Proofs.Ytdddmkdidegngaa.PFnExactSureNumbers
