/- The functions that a law reaches, and proofs that the Go code comes to just their answers: written by a program of this session out of the translation. Conditions: those that each theorem states. -/
import Derived.Test.YtdddmkdidegngaaPFnExactLeftByCluesx0
import Derived.Test.YtdddmkdidegngaaPFnExactLeftByCluesx7
import Derived.Test.YtdddmkdidegngaaPFnExactLeftByCluesx10
namespace Go.Proofs.Ytdddmkdidegngaa.PFnExactLeftByClues
open Go.RowKit Go.Proofs.YtdddmkdidegngaaW.PrintWords Go.Proofs.YtdddmkdidegngaaW.PrintLast Go.Proofs.YtdddmkdidegngaaW.PrintMore
attribute [local go_sem] max2_int min2_int max_two min_two max_three min_three max_four min_four   -- for this text's walks alone
set_option linter.unusedVariables false
set_option linter.unusedSimpArgs false

/-! ### impl_solve: function 101 -/
theorem impl_solve.zc_len (z : Array Value) (n : Nat) : (Builtin.zeroCells z n).toList.length = n * z.size := by simp [Builtin.zeroCells]
theorem impl_solve.zc_one (z : Array Value) (n : Nat) (h1 : ∀ u ∈ z.toList, u.oneCell' = true) : ∀ u ∈ (Builtin.zeroCells z n).toList, u.oneCell' = true := by
  intro u hu
  simp only [Builtin.zeroCells, Array.toList_map, List.mem_map, Array.toList_range, List.mem_range] at hu
  obtain ⟨i, hi, rfl⟩ := hu
  have hz : 0 < z.size := by
    rcases Nat.eq_zero_or_pos z.size with h | h
    · rw [h, Nat.mul_zero] at hi; omega
    · exact h
  have hm := Nat.mod_lt i hz
  rw [getElem!_pos z _ hm]
  exact h1 _ (by rw [← Array.getElem_toList (h := by simpa using hm)]; exact List.getElem_mem _)
theorem impl_solve.clear_run {P : Program} {e t ty : TypeId} {z : Value} {sz bytes : Nat} (ht : P.underlying t = some (.slice e)) (hinfo : (P.info? e).map (fun i => (i.zero, i.size, i.bytes)) = some (some z, sz, bytes)) (h1 : ∀ u ∈ z.cells.toList, u.oneCell' = true) (W : World) (b o n c : Nat) (hn : 0 < n)
    (hc : ∀ j, j < n * z.cells.size → (W.cell? ⟨b, o + j, none⟩).isSome = true) (hf : ∀ j, j < n * z.cells.size → W.frozen? ⟨b, o + j, none⟩ = false) :
    (Builtin.clear_ #[t] ty #[.slice (some ⟨b, o, none⟩) n c]).run P W = .ok (.tuple #[]) (W.setCells b o (Builtin.zeroCells z.cells n).toList) := by
  obtain ⟨i0, hi, hz⟩ := Option.map_eq_some_iff.1 hinfo
  have hz1 : i0.zero = some z := by injection hz
  have hst := run_storeCells_cells (P := P) b o (Builtin.zeroCells z.cells n).toList 0 W (by rw [impl_solve.zc_len]; simpa using hc) (by rw [impl_solve.zc_len]; simpa using hf) (impl_solve.zc_one _ _ h1)
  simp only [Nat.add_zero] at hst
  obtain ⟨m, rfl⟩ : ∃ m, n = m + 1 := ⟨n - 1, by omega⟩
  simp [Builtin.clear_, run_underlying ht, zeroValue, typeInfo, hi, hz1, hst]
/-- Those of which a test tells false. -/
def impl_solve.left (φ : List Int → Option Bool) : List (List Int) → Option (List (List Int))
  | [] => some []
  | x :: l => (φ x).bind fun b => (impl_solve.left φ l).bind fun r => some (if b = true then r else x :: r)
/-- Rows in a block, from its second cell on. -/
structure impl_solve.Rows (W : World) (g : Nat) (ok : Nat → Prop) (cur : Array Value) (vs : List Value) (ys : List (List Int)) : Prop where
  hg : W.heap[g]? = some (.cells cur 22 (0, 0))
  len : vs.length = ys.length
  at_ : ∀ (t : Nat) (u : Value), vs[t]? = some u → cur[1 + t]? = some u
  row : ∀ (t : Nat) (y : List Int) (u : Value), ys[t]? = some y → vs[t]? = some u → Kd.FK (Kd.slice 3 (Kd.int .i64)) W (fun q => ok q ∧ q ≠ g) y [u]
theorem impl_solve.Rows.V {W : World} {g base c : Nat} {ok : Nat → Prop} {cur : Array Value} {vs : List Value} {ys : List (List Int)} (h : impl_solve.Rows W g ok cur vs ys) (hok : ok g) (hc : ys.length ≤ c) (hm : ys.length ≤ 9223372036854775807) : Kd.V (Kd.slice 3 (Kd.int .i64)) 22 W base ok (.slice (some ⟨g, 1, none⟩) ys.length c) ys := by
  refine Kd.V_mk hc (fun W' hW => ⟨rfl, hm, fun hp => ⟨_, rfl, fun j y hj => ?_⟩⟩)
  have hjl : j < vs.length := by rw [h.len]; exact (List.getElem?_eq_some_iff.1 hj).1
  have hu : vs[j]? = some vs[j] := List.getElem?_eq_getElem hjl
  refine ⟨[vs[j]], rfl, h.row j y _ hj hu W' (fun q hq hlt => hW q hq.1 hlt), fun i u hi => ?_⟩
  have hg' : W'.heap[g]? = some (.cells cur 22 (0, 0)) := (hW g hok (blk_lt h.hg)).trans h.hg
  cases i with
  | zero =>
    simp only [List.getElem?_cons_zero, Option.some.injEq] at hi
    subst hi
    rw [add_at, show 1 + (j * (Kd.slice 3 (Kd.int .i64)).sz + 0) = 1 + j from by rw [show (Kd.slice 3 (Kd.int .i64)).sz = 1 from rfl]; omega, blk_cell hg']
    exact h.at_ j _ hu
  | succ i => simp at hi
theorem impl_solve.Rows.of_S {W : World} {g base c : Nat} {x0 : List Int} {xs : List (List Int)} (h : Kd.S (Kd.slice 3 (Kd.int .i64)) 22 W base (fun _ => True) (.slice (some ⟨g, 0, none⟩) (xs.length + 1) c) (x0 :: xs)) :
    ∃ cur vs, impl_solve.Rows W g (fun q => base ≤ q) cur vs xs ∧ xs.length + 1 ≤ cur.size := by
  obtain ⟨cur, hg⟩ := Kd.S_typed h g rfl
  have hN := Kd.S_N (Kd.S_bound h)
  have hget : ∀ t, t < xs.length → ∃ u, cur[1 + t]? = some u ∧ Kd.FK (Kd.slice 3 (Kd.int .i64)) W (fun q => base ≤ q ∧ q ≠ g) (xs.getD t []) [u] := by
    intro t ht
    obtain ⟨cs, hl, hK, hc⟩ := Kd.N_get hN [] ((t : Int) + 1) (by omega) (by omega)
    obtain ⟨u, rfl⟩ : ∃ u, cs = [u] := by
      match cs, hl with
      | [u], _ => exact ⟨u, rfl⟩
    have h1 := hc 0 u rfl
    rw [add_at, show 0 + (((t : Int) + 1).toNat * (Kd.slice 3 (Kd.int .i64)).sz + 0) = 1 + t from by rw [show (Kd.slice 3 (Kd.int .i64)).sz = 1 from rfl]; omega, blk_cell hg] at h1
    refine ⟨u, h1, ?_⟩
    rw [show ((t : Int) + 1).toNat = t + 1 from by omega] at hK
    exact Kd.FK_mono hK (fun q hq => ⟨hq.1.2.1, fun he => hq.2 (by rw [he]; rfl)⟩)
  have hsz : xs.length + 1 ≤ cur.size := by
    rcases Nat.eq_zero_or_pos xs.length with h0 | h0
    · obtain ⟨cs, hl, hK, hc⟩ := Kd.N_get hN [] 0 (by omega) (by omega)
      obtain ⟨u, rfl⟩ : ∃ u, cs = [u] := by
        match cs, hl with
        | [u], _ => exact ⟨u, rfl⟩
      have h1 := hc 0 u rfl
      rw [add_at, blk_cell hg] at h1
      have := (Array.getElem?_eq_some_iff.1 h1).1
      omega
    · obtain ⟨u, hu, _⟩ := hget (xs.length - 1) (by omega)
      have := (Array.getElem?_eq_some_iff.1 hu).1
      omega
  refine ⟨cur, (cur.toList.drop 1).take xs.length, ⟨hg, ?_, ?_, ?_⟩, hsz⟩
  · simp; omega
  · intro t u hu
    rw [List.getElem?_take] at hu
    split at hu
    · rw [List.getElem?_drop, Array.getElem?_toList] at hu; exact hu
    · cases hu
  · intro t y u hy hu
    obtain ⟨ht, hy'⟩ := List.getElem?_eq_some_iff.1 hy
    obtain ⟨u', hu', hK⟩ := hget t ht
    rw [List.getElem?_take, if_pos ht, List.getElem?_drop, Array.getElem?_toList, hu'] at hu
    injection hu with hu
    subst hu
    rw [List.getD_eq_getElem?_getD, hy] at hK
    exact hK
def impl_solve.del (k : Nat) (xs : List (List Int)) (φ : List Int → Option Bool) : Option (List (List Int)) :=
  (slices_IndexFunc_ssint_sint.f k xs φ).bind fun i => if i = -1 then some xs else if 0 ≤ i ∧ i < (xs.length : Int) then (impl_solve.left φ (xs.drop (i.toNat + 1))).bind fun r => some (xs.take i.toNat ++ r) else none
/-- In the midst: yj are kept, in kv's cells; behind them lies what lay there (vs from i on). -/
structure impl_solve.Mid (wF W0 W : World) (g : Nat) (csz : Nat) (vs : List Value) (i : Nat) (yj : List (List Int)) : Prop where
  out : ∃ (cur : Array Value) (kv : List Value), W.heap[g]? = some (.cells cur 22 (0, 0)) ∧ cur.size = csz ∧ yj.length = i ∧ kv.length = i ∧ (∀ (t : Nat) (u : Value), (kv ++ vs.drop i)[t]? = some u → cur[1 + t]? = some u) ∧ (∀ (t : Nat) (y : List Int) (u : Value), yj[t]? = some y → kv[t]? = some u → Kd.FK (Kd.slice 3 (Kd.int .i64)) W0 (fun q => wF.heap.size ≤ q ∧ q ≠ g) y [u])
  keep : ∀ q, q < W0.heap.size → q ≠ g → W.heap[q]? = W0.heap[q]?
  hB : Below wF.heap.size wF W
  size : W0.heap.size ≤ W.heap.size
theorem impl_solve.Mid.step {wF W0 W W1 : World} {g csz : Nat} {vs : List Value} {i : Nat} {yj : List (List Int)} (h : impl_solve.Mid wF W0 W g csz vs i yj) (hb : Below W.heap.size W W1) : impl_solve.Mid wF W0 W1 g csz vs i yj := by
  obtain ⟨⟨cur, kv, hg, r⟩, hk, hB, hs⟩ := h
  exact ⟨⟨cur, kv, blk_below hg hb, r⟩, fun q hq hne => (hb.block q (Nat.lt_of_lt_of_le hq hs)).trans (hk q hq hne), below_then hB hB.size hb, Nat.le_trans hs hb.size⟩
/-- One more is kept: v, that stood at j, comes to i. -/
theorem impl_solve.Mid.put {wF W0 W : World} {g csz : Nat} {vs : List Value} {i : Nat} {yj : List (List Int)} {y : List Int} {u : Value} (h : impl_solve.Mid wF W0 W g csz vs i yj) (hgF : wF.heap.size ≤ g) (hi : i < vs.length) (hu : Kd.FK (Kd.slice 3 (Kd.int .i64)) W0 (fun q => wF.heap.size ≤ q ∧ q ≠ g) y [u]) : impl_solve.Mid wF W0 (W.setCell ⟨g, 1 + i, none⟩ u) g csz vs (i + 1) (yj ++ [y]) := by
  obtain ⟨⟨cur, kv, hg, hsz, hy, hkv, hat, hrow⟩, hk, hB, hs⟩ := h
  have hlt : 1 + i < cur.size := by
    have h1 : (kv ++ vs.drop i)[i]? = some vs[i] := by
      rw [List.getElem?_append_right (by omega), hkv, Nat.sub_self, List.getElem?_drop, Nat.add_zero, List.getElem?_eq_getElem hi]
    exact (Array.getElem?_eq_some_iff.1 (hat i _ h1)).1
  refine ⟨⟨cur.setIfInBounds (1 + i) u, kv ++ [u], blk_set hg (1 + i) u, by simpa using hsz, by simp [hy], by simp [hkv], ?_, ?_⟩, ?_, hB.setCell hgF _, by simpa [World.setCell] using hs⟩
  · intro t v ht
    rw [Array.getElem?_setIfInBounds]
    rcases Nat.lt_trichotomy t i with h1 | h1 | h1
    · rw [if_neg (by omega)]
      refine hat t v ?_
      rw [List.append_assoc, List.getElem?_append_left (by omega)] at ht
      rw [List.getElem?_append_left (by omega)]; exact ht
    · subst h1
      rw [if_pos rfl, if_pos hlt]
      rw [List.append_assoc, List.getElem?_append_right (by omega), hkv, Nat.sub_self] at ht
      simpa using ht
    · rw [if_neg (by omega)]
      refine hat t v ?_
      rw [List.getElem?_append_right (by simp; omega)] at ht
      rw [List.getElem?_append_right (by omega), List.getElem?_drop]
      rw [List.getElem?_drop] at ht
      simp only [List.length_append, List.length_singleton, hkv] at ht ⊢
      rw [← ht]; congr 1; omega
  · intro t y' v hy' hv
    rcases Nat.lt_or_ge t i with h1 | h1
    · rw [List.getElem?_append_left (by omega)] at hy' hv
      exact hrow t y' v hy' hv
    · rw [List.getElem?_append_right (by omega)] at hy' hv
      rw [hy] at hy'; rw [hkv] at hv
      cases htt : t - i with
      | zero =>
        rw [htt] at hy' hv
        simp only [List.getElem?_cons_zero, Option.some.injEq] at hy' hv
        subst hy'; subst hv; exact hu
      | succ m => rw [htt] at hy'; simp at hy'
  · intro q hq hne
    exact (Below.heap_setCell W ⟨g, 1 + i, none⟩ u q hne).trans (hk q hq hne)
theorem impl_solve.Mid.cell {wF W0 W : World} {g csz : Nat} {vs : List Value} {i : Nat} {yj : List (List Int)} (h : impl_solve.Mid wF W0 W g csz vs i yj) (j : Nat) (hij : i ≤ j) (u : Value) (hu : vs[j]? = some u) : W.cell? ⟨g, 1 + j, none⟩ = some u ∧ W.frozen? ⟨g, 1 + j, none⟩ = false := by
  obtain ⟨⟨cur, kv, hg, hsz, hy, hkv, hat, hrow⟩, _⟩ := h
  refine ⟨?_, blk_frozen hg _⟩
  rw [blk_cell hg]
  refine hat j u ?_
  rw [List.getElem?_append_right (by omega), hkv, List.getElem?_drop, show i + (j - i) = j by omega]
  exact hu
theorem impl_solve.left_cons {φ : List Int → Option Bool} {xs : List (List Int)} {j : Nat} (hj : j < xs.length) {yr : List (List Int)} (h : impl_solve.left φ (xs.drop j) = some yr) : ∃ b r, φ xs[j] = some b ∧ impl_solve.left φ (xs.drop (j + 1)) = some r ∧ yr = if b = true then r else xs[j] :: r := by
  rw [List.drop_eq_getElem_cons hj] at h
  obtain ⟨b, hb, h⟩ := Option.bind_eq_some_iff.mp h
  obtain ⟨r, hr, h⟩ := Option.bind_eq_some_iff.mp h
  exact ⟨b, r, hb, hr, (Option.some.inj h).symm⟩
set_option maxHeartbeats 8000000 in
set_option maxRecDepth 100000 in
theorem impl_solve.delete (k : Nat) (xs ys : List (List Int)) (q : Value) (φ : List Int → Option Bool) (wF W : World) (g c : Nat) (x0 : List Int) (hS : Kd.S (Kd.slice 3 (Kd.int .i64)) 22 W wF.heap.size (fun _ => True) (.slice (some ⟨g, 0, none⟩) (xs.length + 1) c) (x0 :: xs)) (hB : Below wF.heap.size wF W) (hF : F84 wF q φ) (h : impl_solve.del k xs φ = some ys) :
    Calls Try.prog 124 #[.slice (some ⟨g, 1, none⟩) xs.length (c - 1), q] W fun e w' => e = .returned (.slice (some ⟨g, 1, none⟩) ys.length (c - 1)) ∧ Kd.V (Kd.slice 3 (Kd.int .i64)) 22 w' wF.heap.size (fun q => wF.heap.size ≤ q) (.slice (some ⟨g, 1, none⟩) ys.length (c - 1)) ys ∧ Below wF.heap.size wF w' := by
  obtain ⟨cur, vs, hR, hsz⟩ := impl_solve.Rows.of_S hS
  have hgF : wF.heap.size ≤ g := Kd.S_base hS g rfl
  have hcc : xs.length + 1 ≤ c := by have := (Kd.S_reads' hS).2.1; simpa using this
  have hmax : xs.length + 1 ≤ 9223372036854775807 := by have := (Kd.S_reads' hS).2.2.2.1; simpa using this
  unfold impl_solve.del at h
  obtain ⟨i, hi, h⟩ := Option.bind_eq_some_iff.mp h
  have HI := Aside0.mk hi
  have HS := Aside0.mk hS
  have HB := Aside0.mk hB
  have HF := Aside0.mk hF
  have HR := Aside0.mk hR
  have HH := Aside0.mk h
  have HSZ := Aside0.mk hsz
  have HGF := Aside0.mk hgF
  have HCC := Aside0.mk hcc
  have HMAX := Aside0.mk hmax
  clear hi hS hB hF hR h hsz hgF hcc hmax
  have u68 := Try.underlying68
  have u22 := Try.underlying22
  have hC : Kd.C (Kd.slice 3 (Kd.int .i64)) W (some ⟨g, 1, none⟩) xs.length xs := Kd.F_now (Kd.V_F ((impl_solve.Rows.V (base := 0) HR.out HGF.out (c := xs.length) (Nat.le_refl _) (by have := HMAX.out; omega))))
  have HC := Aside0.mk hC
  clear hC
  go_enter Try.func124, Try.ntmps124
  go_wp2_with fail
  refine (slices_IndexFunc_ssint_sint.calls k (some ⟨g, 1, none⟩) (c - 1) xs q φ i W HC.out (by have := HCC.out; omega) (F84_below HF.out HB.out) HI.out).mono ?_
  rintro e w1 ⟨rfl, hb1⟩
  have HB1 := Aside0.mk hb1
  clear hb1
  by_cases h1 : i = -1
  · have h := HH.out
    rw [if_pos h1] at h
    obtain rfl := Option.some.inj h
    have h1b : (i == -1) = true := by simpa using h1
    clear h HH
    go_wp2_with fail
    go_ret
    exact ⟨rfl, Kd.V_below (impl_solve.Rows.V HR.out HGF.out (by have := HCC.out; omega) (by have := HMAX.out; omega)) HB1.out, below_then HB.out HB.out.size HB1.out⟩
  · have h := HH.out
    rw [if_neg h1] at h
    have h1b : (i == -1) = false := by simpa using h1
    by_cases h2 : 0 ≤ i ∧ i < (xs.length : Int)
    rotate_left
    · rw [if_neg h2] at h; cases h
    rw [if_pos h2] at h
    obtain ⟨yr, hyr, h⟩ := Option.bind_eq_some_iff.mp h
    have h := Option.some.inj h
    obtain ⟨i0, rfl⟩ : ∃ i0 : Nat, i = (i0 : Int) := ⟨i.toNat, by omega⟩
    rw [Int.toNat_natCast] at hyr h
    have hw0 : wrap64 ((i0 : Int) + 1) = (i0 : Int) + 1 := by have := HMAX.out; unfold wrap64; omega
    have hM0 : impl_solve.Mid wF W w1 g cur.size vs i0 (xs.take i0) := by
      have hlv := HR.out.len
      refine ⟨⟨cur, vs.take i0, blk_below HR.out.hg HB1.out, rfl, by simp; omega, by simp; omega, fun t u ht => HR.out.at_ t u (by rw [List.take_append_drop] at ht; exact ht), fun t y u hy hu => ?_⟩, fun q hq _ => HB1.out.block q hq, below_then HB.out HB.out.size HB1.out, HB1.out.size⟩
      rw [List.getElem?_take] at hy hu
      split at hy
      · rw [if_pos (by assumption)] at hu; exact HR.out.row t y u hy hu
      · cases hy
    have HI0 := Aside0.mk h2.2
    have HM0 := Aside0.mk hM0
    have HYR := Aside0.mk hyr
    have HYS := Aside0.mk h
    clear hM0 hyr h h2 HH HB1 HC
    go_wp2_with fail
    go_loopg [5, 6] (xs.length - (i0 + 1)) (fun kq v5 v6 w' => ∃ (i j : Nat) (yj yr : List (List Int)), v5 = .int .i64 (i : Int) ∧ v6 = .int .i64 (j : Int) ∧ Aside0 (kq + j = xs.length) ∧ Aside0 (i < j) ∧ Aside0 (impl_solve.left φ (xs.drop j) = some yr) ∧ Aside0 (yj ++ yr = ys) ∧ Aside0 (impl_solve.Mid wF W w' g cur.size vs i yj))
    case atStart => exact ⟨i0, i0 + 1, xs.take i0, yr, rfl, (congrArg (Value.int .i64) (by have := HMAX.out; have := HI0.out; unfold wrap64; omega)), ⟨by have := HI0.out; omega⟩, ⟨by omega⟩, HYR, HYS, HM0⟩
    case round =>
      clear HYR HYS HM0 hw0
      obtain ⟨i, j, yj, yr, rfl, rfl, HK, HIJ, HYR, HYS, HM⟩ := hrel
      cases gk with
      | succ k1 =>
        have hj : j < xs.length := by have := HK.out; omega
        obtain ⟨b, r, hb, hr, hyr⟩ := impl_solve.left_cons hj HYR.out
        have hjv : j < vs.length := by rw [HR.out.len]; exact hj
        obtain ⟨hx0, hf0⟩ := HM.out.cell j (by have := HIJ.out; omega) vs[j] (List.getElem?_eq_getElem hjv)
        have hKj := HR.out.row j xs[j] vs[j] (List.getElem?_eq_getElem hj) (List.getElem?_eq_getElem hjv)
        obtain ⟨Aj, cj, ej, hlj, hFj⟩ := Kd.FK_slice_open hKj
        have ej2 : vs[j] = .slice Aj xs[j].length cj := by injection ej
        rw [ej2] at hx0
        have hCj : Kd.C (Kd.int .i64) wr Aj xs[j].length xs[j] := Kd.F_now (Kd.F_step hFj (fun q hq hlt => HM.out.keep q hlt hq.2))
        have hji : (j : Int) < (xs.length : Int) := by omega
        have hji2 : decide ((j : Int) < (xs.length : Int)) = true := decide_eq_true hji
        have hji3 : decide (j < xs.length) = true := decide_eq_true hj
        obtain ⟨hc0, hfz0⟩ := HM.out.cell i (Nat.le_refl _) (vs[i]'(by have := HIJ.out; omega)) (List.getElem?_eq_getElem (by have := HIJ.out; omega))
        have HB' := Aside0.mk hb
        have HR' := Aside0.mk hr
        have HY' := Aside0.mk hyr
        have HCJ := Aside0.mk hCj
        have HLJ := Aside0.mk hlj
        have HKJ := Aside0.mk hKj
        have HEJ := Aside0.mk ej2
        obtain ⟨xj, hxj⟩ : ∃ x, x = xs[j] := ⟨_, rfl⟩
        rw [← hxj] at HB' HY' HCJ HLJ HKJ HEJ hx0
        clear hb hr hyr hCj hlj hKj hFj ej ej2 HYR hxj
        have HVI := Aside0.mk (show vs[i]? = some (vs[i]'(by have := HIJ.out; omega)) from List.getElem?_eq_getElem (by have := HIJ.out; omega))
        have hwj : (wrap64 ((j : Int) + 1)) = ((j + 1 : Nat) : Int) := by have := HMAX.out; unfold wrap64; omega
        have hwi : (wrap64 ((i : Int) + 1)) = ((i + 1 : Nat) : Int) := by have := HMAX.out; have := HIJ.out; unfold wrap64; omega
        have HWJ := Aside0.mk hwj
        have HWI := Aside0.mk hwi
        clear hwi hwj
        have hil : i < xs.length := by have := HIJ.out; omega
        have hil2 : (i : Int) < (xs.length : Int) := by omega
        cases b
        · have hyr2 : yr = xj :: r := by simpa using HY'.out
          have HYR2 := Aside0.mk hyr2
          clear hyr2 HY'
          go_wp2_with (first | ((with_reducible refine gate_fn rfl ?_); refine goesF_ (some 28) rfl rfl q #[.slice Aj xj.length cj] rfl (by first | rfl | (go_simp; done)) (by (try simp only [List.map_toArray, List.map_cons, List.map_nil]); first | done | rfl) ?_; refine Runs.mono (F84_below HF.out HM.out.hB Aj cj xj false wr (Below.refl _ _) HCJ.out HLJ.out HB'.out) ?_; rintro e w8 ⟨rfl, hb⟩; refine ⟨_, rfl, ?_⟩; have HM8 := Aside0.mk (HM.out.step hb); have HII := Aside0.mk (HM8.out.cell i (Nat.le_refl _) _ HVI.out); clear hb hc0 hfz0 hx0 hf0; obtain ⟨hc8, hf8⟩ := HII.out))
          have HM9 := Aside0.mk (HM8.out.put HGF.out (by have := HIJ.out; omega) HKJ.out)
          rw [HEJ.out] at HM9
          go_roundg k1
          case measure => omega
          case rel => exact ⟨i + 1, j + 1, yj ++ [xj], r, congrArg (Value.int .i64) HWI.out, congrArg (Value.int .i64) HWJ.out, ⟨by have := HK.out; omega⟩, ⟨by have := HIJ.out; omega⟩, HR', ⟨by rw [← HYS.out, HYR2.out]; simp⟩, HM9⟩
        · have hyr2 : yr = r := by simpa using HY'.out
          have HYR2 := Aside0.mk hyr2
          clear hyr2 HY'
          go_wp2_with (first | ((with_reducible refine gate_fn rfl ?_); refine goesF_ (some 28) rfl rfl q #[.slice Aj xj.length cj] rfl (by first | rfl | (go_simp; done)) (by (try simp only [List.map_toArray, List.map_cons, List.map_nil]); first | done | rfl) ?_; refine Runs.mono (F84_below HF.out HM.out.hB Aj cj xj true wr (Below.refl _ _) HCJ.out HLJ.out HB'.out) ?_; rintro e w8 ⟨rfl, hb⟩; refine ⟨_, rfl, ?_⟩; have HM8 := Aside0.mk (HM.out.step hb); have HII := Aside0.mk (HM8.out.cell i (Nat.le_refl _) _ HVI.out); clear hb hc0 hfz0 hx0 hf0; obtain ⟨hc8, hf8⟩ := HII.out))
          go_roundg k1
          case measure => omega
          case rel => exact ⟨i, j + 1, yj, r, rfl, congrArg (Value.int .i64) HWJ.out, ⟨by have := HK.out; omega⟩, ⟨by have := HIJ.out; omega⟩, HR', ⟨by rw [← HYS.out, HYR2.out]⟩, HM8⟩
      | zero =>
        have hj : j = xs.length := by have := HK.out; omega
        subst hj
        have hyr : yr = [] := by
          have h1 := HYR.out
          rw [List.drop_length] at h1
          exact (Option.some.inj h1).symm
        have hys : yj = ys := by rw [← HYS.out, hyr, List.append_nil]
        subst hys
        obtain ⟨⟨cur', kv, hg, hcs, hyl, hkl, hat, hrow⟩, hkeep, hBB, hsize⟩ := HM.out
        have hin : i < xs.length := HIJ.out
        have hji3 : decide (xs.length < xs.length) = false := by simp
        have hic : i ≤ xs.length := by omega
        have hic2 : i ≤ c - 1 := by have := HCC.out; omega
        have hne : ¬ (c - 1 = i) := by have := HCC.out; omega
        have hcl := fun ty => impl_solve.clear_run (P := Try.prog) (ty := ty) Try.underlying68 info22 (by decide) wr g (1 + i) (xs.length - i) (c - 1 - i) (by omega) (fun t ht => by rw [blk_cell hg]; have := HSZ.out; simp [Value.cells] at ht ⊢; omega) (fun t _ => blk_frozen hg _)
        have HCL := Aside0.mk hcl
        go_wp2_with fail
        go_ret
        have hzl : (Builtin.zeroCells #[Value.slice none 0 0] (xs.length - i)).toList.length = xs.length - i := by rw [impl_solve.zc_len]; simp
        obtain ⟨cur2, h3, h4, h5⟩ := setCells_row (Builtin.zeroCells #[Value.slice none 0 0] (xs.length - i)).toList (1 + i) wr cur' hg (by rw [hzl]; have := HSZ.out; omega)
        obtain ⟨s1, s2, s3, s4⟩ := setCells_same g (Builtin.zeroCells #[Value.slice none 0 0] (xs.length - i)).toList (1 + i) wr
        have hfar : ∀ k', k' ≠ g → (wr.setCells g (1 + i) (Builtin.zeroCells #[Value.slice none 0 0] (xs.length - i)).toList).heap[k']? = wr.heap[k']? := fun k' hk' => setCells_far _ _ k' hk'
        have hgr : wr.grownBy (wr.setCells g (1 + i) (Builtin.zeroCells #[Value.slice none 0 0] (xs.length - i)).toList) (some g) := ⟨s1, s2, s3, by rw [s4]; exact Nat.le_refl _, fun k' _ hk' => hfar k' (fun he => hk' (by rw [he]))⟩
        have hRows : impl_solve.Rows (wr.setCells g (1 + i) (Builtin.zeroCells #[Value.slice none 0 0] (xs.length - i)).toList) g (fun q => wF.heap.size ≤ q) cur2 kv yj := by
          refine ⟨h3, by omega, fun t u ht => ?_, fun t y u hy hu => ?_⟩
          · have htl : t < kv.length := (List.getElem?_eq_some_iff.1 ht).1
            rw [← Array.getElem?_toList, h5, List.append_assoc, List.getElem?_append_left (by rw [List.length_take, Array.length_toList]; have := HSZ.out; omega), List.getElem?_take, if_pos (by omega), Array.getElem?_toList]
            exact hat t u (by rw [List.getElem?_append_left htl]; exact ht)
          · exact Kd.FK_step (hrow t y u hy hu) (fun q hq hlt => (hfar q hq.2).trans (hkeep q hlt hq.2))
        refine ⟨by rw [← hyl]; rfl, impl_solve.Rows.V hRows HGF.out (by omega) (by have := HMAX.out; omega), hBB.grown hgr hBB.size (fun k hk => by injection hk with hk; subst hk; exact HGF.out)⟩
def impl_solve.f (k : Nat) (a0 : Int) (l1 : List S44) : Option (List (List Int)) := (impl_hidden.f k a0).bind fun xs => impl_solve.del k xs (fun b0 => impl_solve_1.f k b0 l1)
set_option maxHeartbeats 8000000 in
set_option maxRecDepth 100000 in
theorem impl_solve.calls (k : Nat) (a0 : Int) (A1 : Option Addr) (c1 : Nat) (l1 : List S44) (r : List (List Int)) (w : World) (hr1 : Kd.C k44 w A1 l1.length l1) (hc1 : l1.length ≤ c1) (h : impl_solve.f k a0 l1 = some r) :
    Calls Try.prog 101 #[.int .i64 a0, .slice A1 l1.length c1] w fun e w' => ∃ v0_ : Value, e = .returned (v0_) ∧ Kd.V (Kd.slice 3 (Kd.int .i64)) 22 w' w.heap.size (fun k_ => (w.heap.size ≤ k_)) v0_ r ∧ Below w.heap.size w w' := by
  obtain ⟨xs, hx, h⟩ := Option.bind_eq_some_iff.mp (show ((impl_hidden.f k a0).bind fun xs => impl_solve.del k xs (fun b0 => impl_solve_1.f k b0 l1)) = some r from h)
  have HX := Aside0.mk hx
  have HH := Aside0.mk h
  have HC := Aside0.mk hr1
  have HC1 := Aside0.mk hc1
  clear h hx hr1 hc1
  go_enter Try.func101, Try.ntmps101
  go_wp2_with (first | ((with_reducible refine gate_dst (N := 3) rfl ?_); refine box_event ?hg (N := 3) ?hd (cs := #[.slice A1 l1.length c1]) (t := 34) ?hr ?_; (case hd => rfl); (case hg => rfl); (case hr => first | (go_simp; done) | (go_simp; rfl)); intro gb hgb w2 hbox hb2; have HB2 := Aside0.mk hb2; have HBOX := Aside0.mk hbox; clear hb2 hgb hbox))
  refine (impl_hidden.calls k a0 xs w2 HX.out).mono ?_
  rintro e w3 ⟨g, c, rfl, ⟨x0, hs⟩, hb⟩
  have HS := Aside0.mk hs
  have HB3 := Aside0.mk hb
  clear hs hb
  go_wp2_with fail
  refine (impl_solve.delete k xs r _ (fun b0 => impl_solve_1.f k b0 l1) w2 w3 g c x0 HS.out HB3.out (impl_solve_1.asF k gb A1 c1 l1 w2 HBOX.out (Kd.C_below HC.out HB2.out) HC1.out) HH.out).mono ?_
  rintro e w4 ⟨rfl, hV, hb⟩
  have HV := Aside0.mk hV
  have HB4 := Aside0.mk hb
  clear hV hb
  go_wp2_with fail
  go_ret
  exact ⟨_, rfl, Kd.V_mono HV.out (fun q hq => Nat.le_trans HB2.out.size hq), below_step HB2.out HB4.out⟩
/-! ### impl_LeftByClues: function 54 -/
def impl_LeftByClues.l0 : Nat → List Int → Int → Int → Int → List (S44) → Option (List Int × Bool)
  | 0, _, _, _, _, _ => none
  | k + 1, x4, x13, x14, x287000, x287001 => if x14 < x13 then (if 0 ≤ x14 then (if x14 ≤ (x287001.length : Int) then ((impl_solve.f k x287000 (x287001.take (x14 : Int).toNat)).bind fun t295 => (if x4.length < 17592186044416 then (impl_LeftByClues.l0 k (x4 ++ [(t295.length : Int)]) x13 (wrap64 (x14 + 1)) x287000 x287001) else (none))) else (none)) else (none)) else (some (x4, true))
def impl_LeftByClues.f (k : Nat) (a0_0 : Int) (l0_1 : List (S44)) : Option (List Int × Bool) := (impl_IsPuzzle.f k a0_0 l0_1).bind fun t287 => (if t287 = true then (impl_LeftByClues.l0 k (([] : List Int)) (wrap64 ((l0_1.length : Int) + 1)) 0 a0_0 l0_1) else (some (([] : List Int), false)))
def impl_LeftByClues.T7 : Bool × List (List Nat × List Nat) := (true, [([], []), ([], []), ([1], [1]), ([], []), ([3], [3]), ([], []), ([4, 5], [4, 5]), ([2, 6], [2, 6]), ([7], [7]), ([8], [8]), ([0, 9, 7], [0, 9]), ([10, 10, 0, 1, 2, 3, 4, 5, 6, 7, 8, 9, 10], [0, 10])])
def impl_LeftByClues.B7 : List Nat := [0, 0, 2, 0, 8, 0, 56, 126, 254, 510, 1023, 2047]
theorem impl_LeftByClues.tab7 : rtab .any (opsOf Try.f54 7) = impl_LeftByClues.T7 := by kernel_rfl
theorem impl_LeftByClues.bits7 : waitsOk impl_LeftByClues.T7.2 impl_LeftByClues.B7 = true := by kernel_rfl
set_option maxHeartbeats 8000000 in
set_option maxRecDepth 100000 in
theorem impl_LeftByClues.calls (k : Nat) (a0_0 : Int) (A0_1 : Option Addr) (c0_1 : Nat) (l0_1 : List (S44)) (r1 : List Int) (r2 : Bool) (w : World) (hr0_1 : Kd.C k44 w A0_1 l0_1.length l0_1) (hc0_1 : l0_1.length ≤ c0_1) (h : impl_LeftByClues.f k a0_0 l0_1 = some (r1, r2)) :
    Calls Try.prog 54 #[.agg #[.int .i64 a0_0, .slice A0_1 l0_1.length c0_1]] w fun e w' => ∃ v0_ : Value, e = .returned (.tuple #[v0_, .bool r2]) ∧ Kd.R (Kd.int .i64) 3 w' w.heap.size (fun _ => True) v0_ r1 ∧ Below w.heap.size w w' := by
 have hu36 := Try.underlying36
 have HR0_1 := Aside0.mk hr0_1
 have HC0_1 := Aside0.mk hc0_1
 clear hr0_1 hc0_1
 have HB := Aside0.mk (Below.refl w.heap.size w)
 have H : ((impl_IsPuzzle.f k a0_0 l0_1).bind fun t287 => (if t287 = true then (impl_LeftByClues.l0 k (([] : List Int)) (wrap64 ((l0_1.length : Int) + 1)) 0 a0_0 l0_1) else (some (([] : List Int), false)))) = some (r1, r2) := h
 clear h
 replace H := Option.bind_eq_some_iff.mp H
 obtain ⟨t287, A20, H⟩ := H
 replace H : (if t287 = true then (impl_LeftByClues.l0 k (([] : List Int)) (wrap64 ((l0_1.length : Int) + 1)) 0 a0_0 l0_1) else (some (([] : List Int), false))) = some (r1, r2) := H
 have A2 := Aside0.mk A20
 clear A20
 by_cases c3 : t287 = true
 ·subst c3
  have H1 : (impl_LeftByClues.l0 k (([] : List Int)) (wrap64 ((l0_1.length : Int) + 1)) 0 a0_0 l0_1) = some (r1, r2) := by first | (rw [if_pos rfl] at H; exact H) | rfl
  clear H
  have H := H1
  clear H1
  obtain ⟨y288, hy288⟩ : ∃ y_ : List Int, y_ = (([] : List Int)) := ⟨_, rfl⟩
  replace H : (impl_LeftByClues.l0 k y288 (wrap64 ((l0_1.length : Int) + 1)) 0 a0_0 l0_1) = some (r1, r2) := by first | (rw [hy288]; with_reducible exact H) | (have H2_ := (Option.bind_some _ _).symm.trans H; rw [hy288]; with_reducible exact H2_) | (have H2_ := (Option.bind_some _ _).symm.trans H; with_reducible exact H2_) | with_reducible exact H | (rw [hy288]; exact H) | exact H
  have Ny288 := Aside0.mk hy288
  clear hy288
  have H' := Aside0.mk H
  clear H
  go_enter Try.func54, Try.ntmps54
  go_wp2_with (first | ((with_reducible refine gate_dst (N := 1) rfl ?_); refine box_event ?hg (N := 1) ?hd (cs := #[.int .i64 a0_0, .slice A0_1 l0_1.length c0_1]) (t := 36) ?hr ?_; (case hd => rfl); (case hg => rfl); (case hr => first | (go_simp; done) | (go_simp; rfl)); intro gb286 hg w4 hbox hb; have n0_ := Aside0.mk (below_step (by repeat (first | (with_reducible first | exact HB.out | apply below_alloc | apply pw_below_drewN | apply below_drew1) | exact HB.out)) hb); have n1_ := Aside0.mk (hbox); have n2_ := Aside0.mk ((by rw [hg]; exact (below_size (by repeat (first | (with_reducible first | exact HB.out | apply below_alloc | apply pw_below_drewN | apply below_drew1) | exact HB.out))) : w.heap.size ≤ gb286)); have n3_ := Aside0.mk ((by rw [hg]; exact (below_size (by repeat (first | (with_reducible first | exact HB.out | apply below_alloc | apply pw_below_drewN | apply below_drew1) | exact HB.out))) : w.heap.size ≤ gb286)); clear HB; have HB := n0_; have BK286 := n1_; have GW286 := n2_; have GE286 := n3_; clear n0_ n1_ n2_ n3_; clear hb hbox hg; have hcz5_0 : w4.cell? ⟨gb286, 0, none⟩ = some (.int .i64 a0_0) := (blk_cell BK286.out 0).trans rfl; have hcz5_1 : w4.cell? ⟨gb286, 1, none⟩ = some (.slice A0_1 l0_1.length c0_1) := (blk_cell BK286.out 1).trans rfl; have hfz5_0 := blk_frozen BK286.out 0; have hfz5_1 := blk_frozen BK286.out 1) | ((with_reducible refine gate_callee (f := 27) rfl ?_); refine goesL_ (some 7) rfl rfl Try.func27 (by kernel_rfl) rfl #[.agg #[.int .i64 a0_0, .slice A0_1 l0_1.length c0_1]] rfl (by (try simp only [List.map_toArray, List.map_cons, List.map_nil]); first | done | rfl | (simp only [List.length_drop, List.length_take]; rfl)) ?_; (with_reducible refine (impl_IsPuzzle.calls k a0_0 _ _ l0_1 true _ ?side1 ?side2 A2.out).mono ?_); (case side1 => repeat (first | exact (Kd.C_below HR0_1.out HB.out) | (with_reducible refine Kd.C_alloc ?_ _) | (with_reducible refine Kd.C_drewN ?_ _) | (with_reducible refine Kd.C_drew ?_))); (case side2 => exact HC0_1.out); rintro e w6 ⟨rfl, hb⟩; refine ⟨_, rfl, ?_⟩; have n0_ := Aside0.mk (blk_below (g := gb286) (o := .cells #[.int .i64 a0_0, .slice A0_1 l0_1.length c0_1] 36 (0, 0)) (by (with_reducible repeat (first | refine bN ?_ _ | refine bD ?_ | refine bA ?_ _)); exact BK286.out) hb); have n1_ := Aside0.mk (below_step (by repeat (first | (with_reducible first | exact HB.out | apply below_alloc | apply pw_below_drewN | apply below_drew1 | refine below_set ?_ GE286.out) | exact HB.out)) hb); clear BK286; clear HB; have BK286 := n0_; have HB := n1_; clear n0_ n1_; (try clear hb); (try clear hb2); (try clear hk); (try clear hi)) | ((with_reducible refine gate_dst (N := 9) rfl ?_); refine Kd.R_lit (Kd.int .i64) _ 3 ?hg (N := 9) ?hd (xs := ([] : List Int)) (inner := []) (ok := fun _ => True) (okp := fun _ => True) ?hr ?hp (fun _ hk => hk) trivial (Below.refl _ _) (Nat.le_refl _) (by simp) ?_; (case hd => rfl); (case hg => rfl); (case hr => first | (go_simp; done) | (go_simp; rfl)); (case hp => exact (Reps.none _ _)); intro v289 w7 ho8 hb hg_ hnew_; clear hg_ hnew_; (first | rw [← Ny288.out] at ho8 | (simp only [Int.reduceToNat] at ho8; rw [← Ny288.out] at ho8)); have n0_ := Aside0.mk (Kd.R_lower ho8 (below_size (by repeat (first | (with_reducible first | exact HB.out | apply below_alloc | apply pw_below_drewN | apply below_drew1 | refine below_set ?_ GE286.out) | exact HB.out)))); have n1_ := Aside0.mk (blk_below (g := gb286) (o := .cells #[.int .i64 a0_0, .slice A0_1 l0_1.length c0_1] 36 (0, 0)) (by (with_reducible repeat (first | refine bN ?_ _ | refine bD ?_ | refine bA ?_ _)); exact BK286.out) hb); have n2_ := Aside0.mk (below_step (by repeat (first | (with_reducible first | exact HB.out | apply below_alloc | apply pw_below_drewN | apply below_drew1 | refine below_set ?_ GE286.out) | exact HB.out)) hb); clear BK286; clear HB; have HO290 := n0_; have BK286 := n1_; have HB := n2_; clear n0_ n1_ n2_; clear hb ho8; have hcz9_0 : w7.cell? ⟨gb286, 0, none⟩ = some (.int .i64 a0_0) := (blk_cell BK286.out 0).trans rfl; have hcz9_1 : w7.cell? ⟨gb286, 1, none⟩ = some (.slice A0_1 l0_1.length c0_1) := (blk_cell BK286.out 1).trans rfl; have hfz9_0 := blk_frozen BK286.out 0; have hfz9_1 := blk_frozen BK286.out 1))
  go_loopg [4, 14] k (fun kq v4 v14 w' => ∃ (x4_1 : List Int) (x14_1 : Int), v14 = .int .i64 x14_1 ∧ Aside0 (impl_LeftByClues.l0 kq x4_1 (wrap64 ((l0_1.length : Int) + 1)) x14_1 a0_0 l0_1 = some (r1, r2)) ∧ Aside0 (kq ≤ k) ∧ Aside0 (Kd.R (Kd.int .i64) 3 w' w.heap.size (fun _ => True) v4 x4_1) ∧ Aside0 (w'.heap[gb286]? = some (.cells #[.int .i64 a0_0, (.slice A0_1 l0_1.length c0_1)] 36 (0, 0))) ∧ Aside0 (Below w.heap.size w w'))
  case atStart => exact ⟨(y288), (0), (by first | rfl | (simp; done) | (simp [*]; done)), H', ⟨Nat.le_refl _⟩, ⟨by (with_reducible repeat (first | apply Kd.R_alloc | apply Kd.R_drewN | apply Kd.R_drew)); exact HO290.out⟩, ⟨by (with_reducible repeat (first | refine bN ?_ _ | refine bD ?_ | refine bA ?_ _)); exact BK286.out⟩, ⟨by repeat (first | (with_reducible first | exact HB.out | apply below_alloc | apply pw_below_drewN | apply below_drew1 | refine below_set ?_ GE286.out) | exact HB.out)⟩⟩
  case round =>
   clear H'
   try clear c2
   try clear p2
   try clear c3
   try clear c5
   try clear p6
   try clear hcz5_0
   try clear hcz5_1
   try clear hcz9_0
   try clear hcz9_1
   try clear hfz5_0
   try clear hfz5_1
   try clear hfz9_0
   try clear hfz9_1
   obtain ⟨x4_1, x14_1, rfl, HA, HK1, HO_4, BK286, HB⟩ := hrel
   cases gk with
   | zero => exact absurd HA.out (by simp [impl_LeftByClues.l0])
   | succ k1 =>
    have H := HA.out
    clear HA
    simp only [impl_LeftByClues.l0] at H
    by_cases c10 : x14_1 < (wrap64 ((l0_1.length : Int) + 1))
    ·rw [if_pos c10] at H
     have c10b0 : decide (x14_1 < (wrap64 ((l0_1.length : Int) + 1))) = true := decide_eq_true c10
     clear c10
     by_cases c11 : 0 ≤ x14_1
     rotate_left
     ·rw [if_neg c11] at H
      exact absurd H (by simp)
     rw [if_pos c11] at H
     have c11b0 := eq_true c11
     have c11b1 : decide (0 ≤ x14_1) = true := decide_eq_true c11
     clear c11
     by_cases c12 : x14_1 ≤ (l0_1.length : Int)
     rotate_left
     ·rw [if_neg c12] at H
      exact absurd H (by simp)
     rw [if_pos c12] at H
     have c12b0 := eq_true c12
     have c12b1 : decide (x14_1 ≤ (l0_1.length : Int)) = true := decide_eq_true c12
     clear c12
     obtain ⟨y291, hy291⟩ : ∃ y_ : List (S44), y_ = (l0_1.take (x14_1 : Int).toNat) := ⟨_, rfl⟩
     replace H : ((impl_solve.f k1 a0_0 y291).bind fun t295 => (if x4_1.length < 17592186044416 then (impl_LeftByClues.l0 k1 (x4_1 ++ [(t295.length : Int)]) (wrap64 ((l0_1.length : Int) + 1)) (wrap64 (x14_1 + 1)) a0_0 l0_1) else (none))) = some (r1, r2) := by first | (rw [hy291]; with_reducible exact H) | (have H2_ := (Option.bind_some _ _).symm.trans H; rw [hy291]; with_reducible exact H2_) | (have H2_ := (Option.bind_some _ _).symm.trans H; with_reducible exact H2_) | with_reducible exact H | (rw [hy291]; exact H) | exact H
     have Ny291 := Aside0.mk hy291
     clear hy291
     replace H := Option.bind_eq_some_iff.mp H
     obtain ⟨t295, A130, H⟩ := H
     replace H : (if x4_1.length < 17592186044416 then (impl_LeftByClues.l0 k1 (x4_1 ++ [(t295.length : Int)]) (wrap64 ((l0_1.length : Int) + 1)) (wrap64 (x14_1 + 1)) a0_0 l0_1) else (none)) = some (r1, r2) := H
     have A13 := Aside0.mk A130
     clear A130
     by_cases c14 : x4_1.length < 17592186044416
     rotate_left
     ·rw [if_neg c14] at H
      exact absurd H (by simp)
     rw [if_pos c14] at H
     have LMc14 := Aside0.mk c14
     clear c14
     obtain ⟨y298, hy298⟩ : ∃ y_ : List Int, y_ = (x4_1 ++ [(t295.length : Int)]) := ⟨_, rfl⟩
     replace H : (impl_LeftByClues.l0 k1 y298 (wrap64 ((l0_1.length : Int) + 1)) (wrap64 (x14_1 + 1)) a0_0 l0_1) = some (r1, r2) := by first | (rw [hy298]; with_reducible exact H) | (have H2_ := (Option.bind_some _ _).symm.trans H; rw [hy298]; with_reducible exact H2_) | (have H2_ := (Option.bind_some _ _).symm.trans H; with_reducible exact H2_) | with_reducible exact H | (rw [hy298]; exact H) | exact H
     have Ny298 := Aside0.mk hy298
     clear hy298
     have H' := Aside0.mk H
     clear H
     try go_wp2
     have n0_ := Aside0.mk (Kd.R_drew HO_4.out)
     have n1_ := Aside0.mk (blk_drew BK286.out)
     have n2_ := Aside0.mk (below_drew1 HB.out)
     clear HO_4
     clear BK286
     clear HB
     have HO_4 := n0_
     have BK286 := n1_
     have HB := n2_
     clear n0_ n1_ n2_
     have q16 : (x14_1 : Int) ≤ ((l0_1.length : Int) : Int) := of_decide_eq_true (by first | (with_reducible assumption) | assumption)
     obtain ⟨i016, hi016, _, hsz16, _⟩ := info_parts info44
     have hroom16 : l0_1.length ≤ c0_1 := HC0_1.out
     have hC16 : Kd.C k44 _ A0_1 l0_1.length l0_1 := HR0_1.out
     have hcut16 := cut_to (P := Try.prog) 34 44 .i64 Try.underlying34 hi016 A0_1 l0_1.length c0_1 x14_1 (of_decide_eq_true (by first | (with_reducible assumption) | assumption)) q16 hroom16
     have hr16 := Kd.C_take (m := (x14_1 : Int).toNat) hC16 (by omega)
     have hy16 : y291.length = (x14_1 : Int).toNat := (by rw [Ny291.out, List.length_take]; omega)
     rw [← Ny291.out] at hr16
     rw [← hy16] at hcut16
     have HR294 := Aside0.mk hr16
     have HC294 := Aside0.mk (show y291.length ≤ c0_1 from by omega)
     clear hr16 hC16 hroom16 hi016 hsz16
     have KY16 := Aside0.mk hy16
     clear hy16
     replace q16 := eq_true q16
     refine start_ (n := 12) (S := fun w' => w'.cell? ⟨gb286, 0, none⟩ = some (.int .i64 a0_0) ∧ w'.cell? ⟨gb286, 1, none⟩ = some (.slice A0_1 l0_1.length c0_1)) (ds := []) #[false, false, false, false, false, false, false, false, false, false, false, false] (by kernel_rfl) rfl rfl ⟨(blk_cell BK286.out 0).trans rfl, (blk_cell BK286.out 1).trans rfl⟩ (fun hHeld => ?_); refine with_tabW impl_LeftByClues.tab7 impl_LeftByClues.bits7 (fun HT_ HW_ => ?_)
     generalize wr.drew = w15 at HO_4 BK286 HB HR294 hHeld ⊢
     refine pure_ (i := 0) (N := some 17) (v := ?_) (a' := ?_) #[true, false, false, false, false, false, false, false, false, false, false, false] rfl rfl (any_of HT_.out (by kernel_rfl)) (fun _ _ _ h => h) (Or.inl ⟨by rfl, ?_⟩) ?_ ?_
     rotate_left
     ·intro w'
      go_simp
      with_reducible rfl
     rotate_left
     ·simp only [Act.put, List.setIfInBounds_toArray, List.set_cons_zero, List.set_cons_succ, i64_w, i32_w]
      rfl
     refine pure_ (i := 1) (N := some 18) (v := ?_) (a' := ?_) #[true, true, false, false, false, false, false, false, false, false, false, false] rfl rfl (any_of HT_.out (by kernel_rfl)) (fun _ _ _ h => h) (Or.inl ⟨by rfl, ?_⟩) ?_ ?_
     rotate_left
     ·intro w'
      go_simp
      with_reducible rfl
     rotate_left
     ·simp only [Act.put, List.setIfInBounds_toArray, List.set_cons_zero, List.set_cons_succ, i64_w, i32_w]
      rfl
     refine pure_ (i := 3) (N := some 20) (v := ?_) (a' := ?_) #[true, true, false, true, false, false, false, false, false, false, false, false] rfl rfl (any_of HT_.out (by kernel_rfl)) (fun _ _ _ h => h) (Or.inl ⟨by rfl, ?_⟩) ?_ ?_
     rotate_left
     ·intro w'
      go_simp
      with_reducible rfl
     rotate_left
     ·simp only [Act.put, List.setIfInBounds_toArray, List.set_cons_zero, List.set_cons_succ, i64_w, i32_w]
      rfl
     refine pure_ (i := 5) (N := some 22) (v := ?_) (a' := ?_) #[true, true, false, true, false, true, false, false, false, false, false, false] rfl rfl (any_of HT_.out (by kernel_rfl)) (fun _ _ _ h => h) (Or.inl ⟨by rfl, ?_⟩) ?_ ?_
     rotate_left
     ·intro w'
      go_simp
      with_reducible rfl
     rotate_left
     ·simp only [Act.put, List.setIfInBounds_toArray, List.set_cons_zero, List.set_cons_succ, i64_w, i32_w]
      rfl
     refine take_ (i := 2) (N := some 19) (v := ?_) (a' := ?_) #[true, true, true, true, false, true, false, false, false, false, false, false] rfl rfl (take_ofW HT_.out HW_.out (by kernel_rfl)) (fun _ _ _ h => h) (Or.inl ⟨by rfl, ?_⟩) hHeld ?_ ?_
     rotate_left
     ·rintro w' ⟨s0, s1⟩
      go_simp
      with_reducible rfl
     rotate_left
     ·simp only [Act.put, List.setIfInBounds_toArray, List.set_cons_zero, List.set_cons_succ, i64_w, i32_w]
      rfl
     refine take_ (i := 4) (N := some 21) (v := ?_) (a' := ?_) #[true, true, true, true, true, true, false, false, false, false, false, false] rfl rfl (take_ofW HT_.out HW_.out (by kernel_rfl)) (fun _ _ _ h => h) (Or.inl ⟨by rfl, ?_⟩) hHeld ?_ ?_
     rotate_left
     ·rintro w' ⟨s0, s1⟩
      go_simp
      with_reducible rfl
     rotate_left
     ·simp only [Act.put, List.setIfInBounds_toArray, List.set_cons_zero, List.set_cons_succ, i64_w, i32_w]
      rfl
     refine pure_ (i := 6) (N := some 23) (v := ?_) (a' := ?_) #[true, true, true, true, true, true, true, false, false, false, false, false] rfl rfl (any_of HT_.out (by kernel_rfl)) (fun _ _ _ h => h) (Or.inl ⟨by rfl, ?_⟩) ?_ ?_
     rotate_left
     ·intro w'
      go_simp
      with_reducible rfl
     rotate_left
     ·simp only [Act.put, List.setIfInBounds_toArray, List.set_cons_zero, List.set_cons_succ, i64_w, i32_w]
      rfl
     refine one_ (i := 7) (N := some 24) #[true, true, true, true, true, true, true, true, false, false, false, false] rfl rfl (one_of HT_.out (by kernel_rfl)) (by decide) (fun K hK => ?_)
     refine goes_ Try.func101 (by kernel_rfl) rfl #[.int .i64 a0_0, .slice A0_1 y291.length c0_1] (by rfl) rfl rfl (by (try simp only [List.map_toArray, List.map_cons, List.map_nil]); first | done | rfl | (simp only [List.length_drop, List.length_take]; rfl)) ?_
     with_reducible refine (impl_solve.calls k1 a0_0 _ _ y291 t295 _ ?side1 ?side2 A13.out).mono ?_
     (case side1 => repeat (first | exact (Kd.C_below HR294.out HB.out) | (with_reducible refine Kd.C_alloc ?_ _) | (with_reducible refine Kd.C_drewN ?_ _) | (with_reducible refine Kd.C_drew ?_)))
     (case side2 => exact HC294.out)
     rintro e w17 ⟨v296, rfl, ho0, hb⟩
     refine ⟨_, rfl, ?_⟩
     have n0_ := Aside0.mk (Kd.R_below (by (with_reducible repeat (first | apply Kd.R_alloc | apply Kd.R_drewN | apply Kd.R_drew)); exact HO_4.out) hb)
     have n1_ := Aside0.mk (Kd.V_lower (Kd.V_mono (ok' := fun k_ => some k_ ≠ (u4 : Value).ownBlock ∧ k_ ≠ gb286) ho0 (fun k_ hk_ => ⟨(Kd.fresh' (Kd.R_lt (by (with_reducible repeat (first | apply Kd.R_alloc | apply Kd.R_drewN | apply Kd.R_drew)); exact HO_4.out)) k_ hk_), (Kd.freshB (g := gb286) (o := .cells #[.int .i64 a0_0, .slice A0_1 l0_1.length c0_1] 36 (0, 0)) (by (with_reducible repeat (first | refine bN ?_ _ | refine bD ?_ | refine bA ?_ _)); exact BK286.out) k_ hk_)⟩)) (below_size (by repeat (first | (with_reducible first | exact HB.out | apply below_alloc | apply pw_below_drewN | apply below_drew1 | refine below_set ?_ GE286.out) | exact HB.out))))
     have n2_ := Aside0.mk (blk_below (g := gb286) (o := .cells #[.int .i64 a0_0, .slice A0_1 l0_1.length c0_1] 36 (0, 0)) (by (with_reducible repeat (first | refine bN ?_ _ | refine bD ?_ | refine bA ?_ _)); exact BK286.out) hb)
     have n3_ := Aside0.mk (below_step (by repeat (first | (with_reducible first | exact HB.out | apply below_alloc | apply pw_below_drewN | apply below_drew1 | refine below_set ?_ GE286.out) | exact HB.out)) hb)
     clear HO_4
     clear BK286
     clear HB
     have HO_4 := n0_
     have HO297 := n1_
     have BK286 := n2_
     have HB := n3_
     clear n0_ n1_ n2_ n3_
     (try clear hb)
     (try clear hb2)
     (try clear hk)
     (try clear hi)
     (try clear ho0)
     obtain ⟨Ao18, co18, eo18⟩ := Kd.V_slice HO297.out
     (first | subst eo18 | (injection eo18 with f1_ f2_ f3_; have f4_ := f1_.symm; have f5_ := f3_.symm; clear f1_ f2_ f3_; subst f4_; subst f5_))
     refine hK.out _ _ ⟨(blk_cell BK286.out 0).trans rfl, (blk_cell BK286.out 1).trans rfl⟩ (fun hHeld => ?_)
     clear hK K
     refine norm_ (a' := ?_) ?_ ?_
     rotate_left
     ·show Act.put _ (some 24) _ = _
      simp only [Act.put, List.setIfInBounds_toArray, List.set_cons_zero, List.set_cons_succ, i64_w, i32_w]
      rfl
     refine pure_ (i := 8) (N := some 25) (v := ?_) (a' := ?_) #[true, true, true, true, true, true, true, true, true, false, false, false] rfl rfl (any_of HT_.out (by kernel_rfl)) (fun _ _ _ h => h) (Or.inl ⟨by rfl, ?_⟩) ?_ ?_
     rotate_left
     ·intro w'
      go_simp
      with_reducible rfl
     rotate_left
     ·simp only [Act.put, List.setIfInBounds_toArray, List.set_cons_zero, List.set_cons_succ, i64_w, i32_w]
      rfl
     refine one_ (i := 9) (N := some 26) #[true, true, true, true, true, true, true, true, true, true, false, false] rfl rfl (one_of HT_.out (by kernel_rfl)) (by decide) (fun K hK => ?_)
     refine value_ (w1 := ?_) (v := ?_) (by rfl) rfl ?_ ?_
     rotate_left 2
     ·go_simp
      constructor
      ·rfl
      ·rfl
     refine hK.out _ _ ⟨(blk_cell (blk_alloc BK286.out _) 0).trans rfl, (blk_cell (blk_alloc BK286.out _) 1).trans rfl⟩ (fun hHeld => ?_)
     clear hK K
     refine norm_ (a' := ?_) ?_ ?_
     rotate_left
     ·show Act.put _ (some 26) _ = _
      simp only [Act.put, List.setIfInBounds_toArray, List.set_cons_zero, List.set_cons_succ, i64_w, i32_w]
      rfl
     refine one_ (i := 10) (N := some 27) #[true, true, true, true, true, true, true, true, true, true, true, false] rfl rfl (one_of HT_.out (by kernel_rfl)) (by decide) (fun K hK => ?_)
     refine Kd.R_append_step (Kd.int .i64) (w0 := w) w.heap.size (by rfl) (.tmp 17) (.tmp 26) 22 3 (.int .i64 0) 8 rfl Try.underlying22 info3 rfl (by decide) (by omega) u4 x4_1 (t295.length : Int) [.int .i64 (t295.length : Int)] (fun _ => True) (fun _ => False) rfl rfl ?aP (fun _ hk => hk.elim) ?aF ?aO ?aB ?aS ?aL ?_
     (case aP => exact rfl)
     (case aB => exact (by repeat (first | (with_reducible first | exact HB.out | apply below_alloc | apply pw_below_drewN | apply below_drew1 | refine below_set ?_ GE286.out) | exact HB.out)))
     (case aF => exact (fun _ _ => trivial))
     (case aO => exact (by (with_reducible repeat (first | apply Kd.R_alloc | apply Kd.R_drewN | apply Kd.R_drew)); exact HO_4.out))
     (case aS => exact (below_size (by repeat (first | (with_reducible first | exact HB.out | apply below_alloc | apply pw_below_drewN | apply below_drew1 | refine below_set ?_ GE286.out) | exact HB.out))))
     (case aL => have := LMc14.out; omega)
     intro v299 w19 ho hb hg hat
     rw [← Ny298.out] at ho
     have n0_ := Aside0.mk (blk_grown (g := gb286) (o := .cells #[.int .i64 a0_0, .slice A0_1 l0_1.length c0_1] 36 (0, 0)) (by (with_reducible repeat (first | refine bN ?_ _ | refine bD ?_ | refine bA ?_ _)); exact BK286.out) hg (Kd.R_ne HO_4.out BK286.out (by decide)))
     have n1_ := Aside0.mk (Kd.V_afterv (ok := (fun k_ => k_ ≠ gb286)) (by (with_reducible repeat (first | apply Kd.V_alloc | apply Kd.V_drewN | apply Kd.V_drew)); exact Kd.V_mono HO297.out (fun _ hk => ⟨hk.2, hk.1⟩)) hg hat)
     have n2_ := Aside0.mk (hb)
     have n3_ := Aside0.mk (ho)
     clear BK286
     clear HO297
     clear HB
     clear HO_4
     have BK286 := n0_
     have HO297 := n1_
     have HB := n2_
     have HO300 := n3_
     clear n0_ n1_ n2_ n3_
     clear ho hb hg hat
     refine hK.out _ _ ⟨(blk_cell BK286.out 0).trans rfl, (blk_cell BK286.out 1).trans rfl⟩ (fun hHeld => ?_)
     clear hK K
     refine norm_ (a' := ?_) ?_ ?_
     rotate_left
     ·show Act.put _ (some 27) _ = _
      simp only [Act.put, List.setIfInBounds_toArray, List.set_cons_zero, List.set_cons_succ, i64_w, i32_w]
      rfl
     refine pure_ (i := 11) (N := some 4) (v := ?_) (a' := ?_) #[true, true, true, true, true, true, true, true, true, true, true, true] rfl rfl (any_of HT_.out (by kernel_rfl)) (fun _ _ _ h => h) (Or.inl ⟨by rfl, ?_⟩) ?_ ?_
     rotate_left
     ·intro w'
      go_simp
      with_reducible rfl
     rotate_left
     ·simp only [Act.put, List.setIfInBounds_toArray, List.set_cons_zero, List.set_cons_succ, i64_w, i32_w]
      rfl
     refine done_ (done_of HT_.out (by kernel_rfl)) ?_
     try go_wp2
     go_roundg k1
     case measure => have := HK1.out; omega
     case rel => exact ⟨(y298), (wrap64 (x14_1 + 1)), (by first | rfl | (simp; done) | (simp [*]; done)), H', ⟨by have := HK1.out; omega⟩, ⟨by (with_reducible repeat (first | apply Kd.R_alloc | apply Kd.R_drewN | apply Kd.R_drew)); exact HO300.out⟩, ⟨by (with_reducible repeat (first | refine bN ?_ _ | refine bD ?_ | refine bA ?_ _)); exact BK286.out⟩, ⟨by repeat (first | (with_reducible first | exact HB.out | apply below_alloc | apply pw_below_drewN | apply below_drew1 | refine below_set ?_ GE286.out) | exact HB.out)⟩⟩
    ·rw [if_neg c10] at H
     have c10b0 : decide (x14_1 < (wrap64 ((l0_1.length : Int) + 1))) = false := decide_eq_false c10
     clear c10
     simp only [Option.some.injEq, Prod.mk.injEq] at H
     obtain ⟨rfl, rfl⟩ := H
     go_wp2
     go_ret2
     exact ⟨_, by first | rfl | (simp [errW_none, errW_some] <;> rfl) | (simp [*, errW_none, errW_some] <;> rfl), by (with_reducible repeat (first | apply Kd.R_alloc | apply Kd.R_drewN | apply Kd.R_drew)); exact HO_4.out, by repeat (first | (with_reducible first | exact HB.out | apply below_alloc | apply pw_below_drewN | apply below_drew1 | refine below_set ?_ GE286.out) | exact HB.out)⟩
 ·replace c3 := Bool.eq_false_iff.mpr c3
  subst c3
  have H1 : (some (([] : List Int), false)) = some (r1, r2) := by first | (rw [if_neg (show ¬ (false = true) by decide)] at H; exact H) | rfl
  clear H
  have H := H1
  clear H1
  simp only [Option.some.injEq, Prod.mk.injEq] at H
  obtain ⟨rfl, rfl⟩ := H
  go_enter Try.func54, Try.ntmps54
  go_wp2_with (first | ((with_reducible refine gate_dst (N := 1) rfl ?_); refine box_event ?hg (N := 1) ?hd (cs := #[.int .i64 a0_0, .slice A0_1 l0_1.length c0_1]) (t := 36) ?hr ?_; (case hd => rfl); (case hg => rfl); (case hr => first | (go_simp; done) | (go_simp; rfl)); intro gb286 hg w20 hbox hb; have n0_ := Aside0.mk (below_step (by repeat (first | (with_reducible first | exact HB.out | apply below_alloc | apply pw_below_drewN | apply below_drew1) | exact HB.out)) hb); have n1_ := Aside0.mk (hbox); have n2_ := Aside0.mk ((by rw [hg]; exact (below_size (by repeat (first | (with_reducible first | exact HB.out | apply below_alloc | apply pw_below_drewN | apply below_drew1) | exact HB.out))) : w.heap.size ≤ gb286)); have n3_ := Aside0.mk ((by rw [hg]; exact (below_size (by repeat (first | (with_reducible first | exact HB.out | apply below_alloc | apply pw_below_drewN | apply below_drew1) | exact HB.out))) : w.heap.size ≤ gb286)); clear HB; have HB := n0_; have BK286 := n1_; have GW286 := n2_; have GE286 := n3_; clear n0_ n1_ n2_ n3_; clear hb hbox hg; have hcz21_0 : w20.cell? ⟨gb286, 0, none⟩ = some (.int .i64 a0_0) := (blk_cell BK286.out 0).trans rfl; have hcz21_1 : w20.cell? ⟨gb286, 1, none⟩ = some (.slice A0_1 l0_1.length c0_1) := (blk_cell BK286.out 1).trans rfl; have hfz21_0 := blk_frozen BK286.out 0; have hfz21_1 := blk_frozen BK286.out 1) | ((with_reducible refine gate_callee (f := 27) rfl ?_); refine goesL_ (some 7) rfl rfl Try.func27 (by kernel_rfl) rfl #[.agg #[.int .i64 a0_0, .slice A0_1 l0_1.length c0_1]] rfl (by (try simp only [List.map_toArray, List.map_cons, List.map_nil]); first | done | rfl | (simp only [List.length_drop, List.length_take]; rfl)) ?_; (with_reducible refine (impl_IsPuzzle.calls k a0_0 _ _ l0_1 false _ ?side1 ?side2 A2.out).mono ?_); (case side1 => repeat (first | exact (Kd.C_below HR0_1.out HB.out) | (with_reducible refine Kd.C_alloc ?_ _) | (with_reducible refine Kd.C_drewN ?_ _) | (with_reducible refine Kd.C_drew ?_))); (case side2 => exact HC0_1.out); rintro e w22 ⟨rfl, hb⟩; refine ⟨_, rfl, ?_⟩; have n0_ := Aside0.mk (blk_below (g := gb286) (o := .cells #[.int .i64 a0_0, .slice A0_1 l0_1.length c0_1] 36 (0, 0)) (by (with_reducible repeat (first | refine bN ?_ _ | refine bD ?_ | refine bA ?_ _)); exact BK286.out) hb); have n1_ := Aside0.mk (below_step (by repeat (first | (with_reducible first | exact HB.out | apply below_alloc | apply pw_below_drewN | apply below_drew1 | refine below_set ?_ GE286.out) | exact HB.out)) hb); clear BK286; clear HB; have BK286 := n0_; have HB := n1_; clear n0_ n1_; (try clear hb); (try clear hb2); (try clear hk); (try clear hi)))
  go_ret2
  exact ⟨_, by first | rfl | (simp [errW_none, errW_some] <;> rfl) | (simp [*, errW_none, errW_some] <;> rfl), by first | exact Kd.R_nil _ _ _ _ _ | exact Kd.N_nil _ _ _ _ _ | exact Kd.V_nil _ _ _ _ _ | exact Kd.Q_nil _ _ _ _ _ | exact Kd.S_nil _ _ _ _ _, by repeat (first | (with_reducible first | exact HB.out | apply below_alloc | apply pw_below_drewN | apply below_drew1 | refine below_set ?_ GE286.out) | exact HB.out)⟩

/-! ### laws_heldIntS: function 55 -/
def laws_heldIntS.l0 : Nat → List Int → Int → Int → Option (Int)
  | 0, _, _, _ => none
  | k + 1, x0, x1, x5 => if x5 < (x0.length : Int) then (if 0 ≤ x5 then (if (rd x0 x5) = x1 then (laws_heldIntS.l0 k x0 (wrap64 (x1 + 1)) (wrap64 (x5 + 1))) else (some (-1))) else (none)) else (some x1)
def laws_heldIntS.f (k : Nat) (l0 : List Int) (a1 : Int) : Option (Int) := laws_heldIntS.l0 k l0 a1 0
theorem laws_heldIntS.mono_l : ∀ k, (∀ y0 y1 y2, LeO (laws_heldIntS.l0 k y0 y1 y2) (laws_heldIntS.l0 (k + 1) y0 y1 y2))
  | 0 => fun _ _ _ r h => by simp [laws_heldIntS.l0] at h
  | k + 1 => by
    have ih0 := laws_heldIntS.mono_l k
    · intro y0 y1 y2
      unfold laws_heldIntS.l0
      repeat' first
      | (with_reducible exact ih0 _ _ _)
      | (with_reducible exact LeO.refl _)
      | (with_reducible exact LeO.none _)
      | (with_reducible refine LeO.ite ?_ ?_)
      | (with_reducible refine LeO.bind ?_ (fun _ => ?_))
      | exact ih0 _ _ _
      | exact LeO.none _
      | refine LeO.ite ?_ ?_
      | refine LeO.bind ?_ (fun _ => ?_)
theorem laws_heldIntS.mono : ∀ a0 a1 k, LeO (laws_heldIntS.f k a0 a1) (laws_heldIntS.f (k + 1) a0 a1) := by
  intro a0 a1 k
  have ih0 := laws_heldIntS.mono_l k
  unfold laws_heldIntS.f
  repeat' first
      | (with_reducible exact ih0 _ _ _)
      | (with_reducible exact LeO.refl _)
      | (with_reducible exact LeO.none _)
      | (with_reducible refine LeO.ite ?_ ?_)
      | (with_reducible refine LeO.bind ?_ (fun _ => ?_))
      | exact ih0 _ _ _
      | exact LeO.none _
      | refine LeO.ite ?_ ?_
      | refine LeO.bind ?_ (fun _ => ?_)
set_option maxHeartbeats 8000000 in
set_option maxRecDepth 100000 in
theorem laws_heldIntS.calls (k : Nat) (A0 : Option Addr) (c0 : Nat) (l0 : List Int) (a1 : Int) (r : Int) (w : World) (hr0 : Kd.C (Kd.int .i64) w A0 l0.length l0) (hc0 : l0.length ≤ c0) (h : laws_heldIntS.f k l0 a1 = some r) :
    Calls Try.prog 55 #[.slice A0 l0.length c0, .int .i64 a1] w fun e w' => e = .returned (.int .i64 r) ∧ Drawn0 w w' := by
 have HR0 := Aside0.mk hr0
 have HC0 := Aside0.mk hc0
 clear hr0 hc0
 have H : (laws_heldIntS.l0 k l0 a1 0) = some r := h
 clear h
 have H' := Aside0.mk H
 clear H
 go_enter Try.func55, Try.ntmps55
 go_wp2
 go_loopg [1, 5] k (fun kq v1 v5 w' => ∃ (x1_1 : Int) (x5_1 : Int), v1 = .int .i64 x1_1 ∧ v5 = .int .i64 x5_1 ∧ Aside0 (laws_heldIntS.l0 kq l0 x1_1 x5_1 = some r) ∧ Aside0 (kq ≤ k) ∧ Drawn0 w w')
 case atStart => exact ⟨(a1), (0), (by first | rfl | (simp; done) | (simp [*]; done)), (by first | rfl | (simp; done) | (simp [*]; done)), H', ⟨Nat.le_refl _⟩, by repeat (first | exact Drawn0.refl _ | apply Drawn0.step)⟩
 case round =>
  clear H'
  try clear p2
  obtain ⟨x1_1, x5_1, rfl, rfl, HA, HK1, ⟨m1, rfl⟩⟩ := hrel
  cases gk with
  | zero => exact absurd HA.out (by simp [laws_heldIntS.l0])
  | succ k1 =>
   have H := HA.out
   clear HA
   simp only [laws_heldIntS.l0] at H
   by_cases c3 : x5_1 < (l0.length : Int)
   ·rw [if_pos c3] at H
    have c3b0 : decide (x5_1 < (l0.length : Int)) = true := decide_eq_true c3
    clear c3
    by_cases c4 : 0 ≤ x5_1
    rotate_left
    ·rw [if_neg c4] at H
     exact absurd H (by simp)
    rw [if_pos c4] at H
    have c4b0 : decide (0 ≤ x5_1) = true := decide_eq_true c4
    clear c4
    by_cases c5 : (rd l0 x5_1) = x1_1
    ·rw [if_pos c5] at H
     have c5b0 : ((rd l0 x5_1) == x1_1) = true := beq_iff_eq.mpr c5
     have c5b1 : ((rd l0 x5_1) != x1_1) = false := bne_eq_false_iff_eq.mpr c5
     clear c5
     have H' := Aside0.mk H
     clear H
     have p301 : 0 ≤ (x5_1 : Int) := of_decide_eq_true (by first | (with_reducible assumption) | assumption)
     have q301 : x5_1 < (l0.length : Int) := of_decide_eq_true (by first | (with_reducible assumption) | assumption)
     obtain ⟨ad301, e301, hx301_0⟩ := Kd.at_int HR0.out x5_1 p301 q301
     cases e301
     replace p301 := eq_true p301
     replace q301 := eq_true q301
     go_wp2
     go_roundg k1
     case measure => have := HK1.out; omega
     case rel => exact ⟨(wrap64 (x1_1 + 1)), (wrap64 (x5_1 + 1)), (by first | rfl | (simp; done) | (simp [*]; done)), (by first | rfl | (simp; done) | (simp [*]; done)), H', ⟨by have := HK1.out; omega⟩, by repeat (first | exact Drawn0.refl _ | apply Drawn0.step)⟩
    ·rw [if_neg c5] at H
     have c5b0 : ((rd l0 x5_1) == x1_1) = false := beq_eq_false_iff_ne.mpr c5
     have c5b1 : ((rd l0 x5_1) != x1_1) = true := bne_iff_ne.mpr c5
     obtain rfl := Option.some.inj H
     have p301 : 0 ≤ (x5_1 : Int) := of_decide_eq_true (by first | (with_reducible assumption) | assumption)
     have q301 : x5_1 < (l0.length : Int) := of_decide_eq_true (by first | (with_reducible assumption) | assumption)
     obtain ⟨ad301, e301, hx301_0⟩ := Kd.at_int HR0.out x5_1 p301 q301
     cases e301
     replace p301 := eq_true p301
     replace q301 := eq_true q301
     go_wp2
     go_ret
     exact ⟨by first | rfl | (simp; done) | (simp [*]; done), by repeat (first | exact Drawn0.refl _ | apply Drawn0.step)⟩
   ·rw [if_neg c3] at H
    have c3b0 : decide (x5_1 < (l0.length : Int)) = false := decide_eq_false c3
    clear c3
    obtain rfl := Option.some.inj H
    go_wp2
    go_ret
    exact ⟨by first | rfl | (simp; done) | (simp [*]; done), by repeat (first | exact Drawn0.refl _ | apply Drawn0.step)⟩

end Go.Proofs.Ytdddmkdidegngaa.PFnExactLeftByClues
