/- The functions that a law reaches, and proofs that the Go code comes to just their answers: written by a program of this session out of the translation. Conditions: those that each theorem states. -/
import Derived.Test.YtdddmkdidegngaaPFnExactSolutionsx0
import Derived.Test.YtdddmkdidegngaaPFnExactSolutionsx2
import Derived.Test.YtdddmkdidegngaaPFnExactSolutionsx5
namespace Go.Proofs.Ytdddmkdidegngaa.PFnExactSolutions
open Go.RowKit Go.Proofs.YtdddmkdidegngaaW.PrintWords Go.Proofs.YtdddmkdidegngaaW.PrintLast Go.Proofs.YtdddmkdidegngaaW.PrintMore
attribute [local go_sem] max2_int min2_int max_two min_two max_three min_three max_four min_four   -- for this text's walks alone
set_option linter.unusedVariables false
set_option linter.unusedSimpArgs false

/-! ### spec_pzLook: function 123 -/
mutual
def spec_pzLook.f : Nat → Int → List S44 → List Int → List (List Int) → Option (List (List Int))
  | 0, _, _, _, _ => none
  | k + 1, more, cl, b, acc => if more > 0 then spec_pzLook.l0 k more cl b acc 0 else (spec_soSum.f k b).bind fun s => if s = 0 then some acc else spec_pzLook.l1 k cl b acc 0
def spec_pzLook.l0 : Nat → Int → List S44 → List Int → List (List Int) → Int → Option (List (List Int))
  | 0, _, _, _, _, _ => none
  | k + 1, more, cl, b, acc, i => if i ≤ 5 then (spec_l1Own.f b).bind fun t => if t.length < 17592186044416 then (spec_pzLook.f k (wrap64 (more - 1)) cl (t ++ [i]) acc).bind fun acc2 => spec_pzLook.l0 k more cl b acc2 (wrap64 (i + 1)) else none else some acc
def spec_pzLook.l1 : Nat → List S44 → List Int → List (List Int) → Int → Option (List (List Int))
  | 0, _, _, _, _ => none
  | k + 1, cl, b, acc, i => if i < (cl.length : Int) then (if 0 ≤ i then (spec_pzFits.f k (rd_T44 cl i).f0 (rd_T44 cl i).f1 (rd_T44 cl i).f2 b).bind fun t => if t = true then spec_pzLook.l1 k cl b acc (wrap64 (i + 1)) else some acc else none) else if acc.length < 5864062014805 then some (acc ++ [b]) else none
end
/-- What is known of the place that the found socks go to: v0, w at the call's begin; v, W now. -/
structure spec_pzLook.Inv (w0 w W : World) (base g : Nat) (ok : Nat → Prop) (v0 v : Value) (acc : List (List Int)) : Prop where
  hg : W.heap[g]? = some (.cells #[v] 68 (0, 0))
  hS : Kd.S (Kd.slice 3 (Kd.int .i64)) 22 W base ok v acc
  hB : Below base w0 W
  size : w.heap.size ≤ W.heap.size
  keep : ∀ q, q < w.heap.size → q ≠ g → some q ≠ v0.ownBlock → W.heap[q]? = w.heap[q]?
  at_ : v.ownBlock = v0.ownBlock ∨ ∃ q, v.ownBlock = some q ∧ w.heap.size ≤ q
theorem spec_pzLook.Inv.below {w0 w W W1 : World} {base g : Nat} {ok : Nat → Prop} {v0 v : Value} {acc : List (List Int)} (h : spec_pzLook.Inv w0 w W base g ok v0 v acc) (hb : Below W.heap.size W W1) (hbs : base ≤ W.heap.size) : spec_pzLook.Inv w0 w W1 base g ok v0 v acc :=
  ⟨blk_below h.hg hb, Kd.S_below h.hS hb, below_then h.hB hbs hb, Nat.le_trans h.size hb.size, fun q h1 h2 h3 => (hb.block q (Nat.lt_of_lt_of_le h1 h.size)).trans (h.keep q h1 h2 h3), h.at_⟩
theorem spec_pzLook.Inv.mono {w0 w W : World} {base g : Nat} {ok ok' : Nat → Prop} {v0 v : Value} {acc : List (List Int)} (h : spec_pzLook.Inv w0 w W base g ok v0 v acc) (hok : ∀ k, ok k → ok' k) : spec_pzLook.Inv w0 w W base g ok' v0 v acc :=
  ⟨h.hg, Kd.S_mono h.hS hok, h.hB, h.size, h.keep, h.at_⟩
theorem spec_pzLook.Inv.trans {w0 w W W1 : World} {base g : Nat} {ok ok' : Nat → Prop} {v0 v v1 : Value} {acc acc1 : List (List Int)} (h : spec_pzLook.Inv w0 w W base g ok v0 v acc) (h1 : spec_pzLook.Inv w0 W W1 base g ok' v v1 acc1) : spec_pzLook.Inv w0 w W1 base g ok' v0 v1 acc1 :=
  ⟨h1.hg, h1.hS, h1.hB, Nat.le_trans h.size h1.size, fun q hq hg hv => (h1.keep q (Nat.lt_of_lt_of_le hq h.size) hg (by
    rcases h.at_ with e | ⟨b, e, hle⟩
    · rw [e]; exact hv
    · rw [e]; intro he; injection he with he; omega)).trans (h.keep q hq hg hv), by
    rcases h1.at_ with e | ⟨b, e, hle⟩
    · rw [e]; exact h.at_
    · exact .inr ⟨b, e, Nat.le_trans h.size hle⟩⟩
/-- From here on: a new beginning. -/
theorem spec_pzLook.Inv.now {w0 w W : World} {base g : Nat} {ok : Nat → Prop} {v0 v : Value} {acc : List (List Int)} (h : spec_pzLook.Inv w0 w W base g ok v0 v acc) : spec_pzLook.Inv w0 W W base g ok v v acc :=
  ⟨h.hg, h.hS, h.hB, Nat.le_refl _, fun _ _ _ _ => rfl, .inl rfl⟩
theorem spec_pzLook.Inv.fresh {w0 w W W1 : World} {base g : Nat} {ok : Nat → Prop} {v0 v u : Value} {acc : List (List Int)} (h : spec_pzLook.Inv w0 w W base g ok v0 v acc) (hb : Below W.heap.size W W1) (hbs : base ≤ W.heap.size) (hu : ∀ q, u.ownBlock = some q → W.heap.size ≤ q) : spec_pzLook.Inv w0 W1 W1 base g (fun q => ok q ∧ some q ≠ u.ownBlock) v v acc :=
  ⟨blk_below h.hg hb, Kd.S_elder' h.hS hu hb, below_then h.hB hbs hb, Nat.le_refl _, fun _ _ _ _ => rfl, .inl rfl⟩
/-- A list of whole numbers that stays as it was. -/
theorem spec_pzLook.Inv.kept {w0 w W : World} {base g : Nat} {ok ok1 : Nat → Prop} {v0 v u : Value} {acc : List (List Int)} {b : List Int} (h : spec_pzLook.Inv w0 w W base g ok v0 v acc) (hg0 : w.heap[g]? = some (.cells #[v0] 68 (0, 0))) (hv0 : ∀ q, v0.ownBlock = some q → ∃ cells, w.heap[q]? = some (.cells cells 22 (0, 0))) (hR : Kd.R (Kd.int .i64) 3 w base ok1 u b) : Kd.R (Kd.int .i64) 3 W base ok1 u b := by
  refine Kd.R_mono (Kd.R_step (Kd.R_bound hR) (fun q hq hlt => h.keep q hlt ?_ ?_)) (fun q hq => hq.1)
  · rintro rfl
    obtain ⟨_, _, _, t, ht, cells, hc⟩ := hq
    rw [hg0] at hc; injection hc with hc; injection hc with _ hc
    have ht' : t ∈ [3] := ht
    have : t = 3 := by simpa using ht'
    rw [this] at hc; exact absurd hc (by decide)
  · intro he
    obtain ⟨_, _, _, t, ht, cells, hc⟩ := hq
    obtain ⟨cells', hc'⟩ := hv0 q he.symm
    rw [hc'] at hc; injection hc with hc; injection hc with _ hc
    have ht' : t ∈ [3] := ht
    have : t = 3 := by simpa using ht'
    rw [this] at hc; exact absurd hc (by decide)
set_option maxHeartbeats 8000000 in
set_option maxRecDepth 100000 in
theorem spec_pzLook.calls (k : Nat) : ∀ (more : Int) (A0 : Option Addr) (c0 : Nat) (cl : List S44) (B : Option Addr) (cb : Nat) (b : List Int) (acc r : List (List Int)) (g : Nat) (v : Value) (w0 w : World) (base : Nat) (ok : Nat → Prop),
    Kd.F k44 w (fun q => q < base) A0 cl.length cl → cl.length ≤ c0 → Kd.R (Kd.int .i64) 3 w base ok (.slice B b.length cb) b → spec_pzLook.Inv w0 w w base g (fun q => ok q ∧ some q ≠ (Value.slice B b.length cb).ownBlock) v v acc → (∀ q, w.heap.size ≤ q → ok q) → base ≤ g → base ≤ w.heap.size → spec_pzLook.f k more cl b acc = some r →
    Calls Try.prog 123 #[.int .i64 more, .slice A0 cl.length c0, .slice B b.length cb, .pointer (some ⟨g, 0, none⟩)] w fun e w' => e = .returned (.tuple #[]) ∧ ∃ v', spec_pzLook.Inv w0 w w' base g ok v v' r := by
  induction k using Nat.strongRecOn with
  | ind k ih =>
  intro more A0 c0 cl B cb b acc r g v w0 w base ok hC hc0 hB hI hok hbg hbs h
  cases k with
  | zero => simp [spec_pzLook.f] at h
  | succ k =>
  simp only [spec_pzLook.f] at h
  have u68 := Try.underlying68
  have u22 := Try.underlying22
  have u34 := Try.underlying34
  have u44 := Try.underlying44
  have u104 := Try.underlying104
  by_cases hm : more > 0
  · rw [if_pos hm] at h
    have hm1 : decide (more > 0) = true := decide_eq_true hm
    have HC := Aside0.mk hC
    have HB := Aside0.mk hB
    have HI := Aside0.mk hI
    have HH := Aside0.mk h
    have HOK := Aside0.mk hok
    clear hC hB hI h hok
    go_enter Try.func123, Try.ntmps123
    go_wp2_with fail
    go_loopg [8] k (fun kq v8 w' => ∃ (i : Int) (v1 : Value) (acc1 : List (List Int)), v8 = .int .i64 i ∧ Aside0 (spec_pzLook.l0 kq more cl b acc1 i = some r) ∧ Aside0 (kq ≤ k) ∧ Aside0 (spec_pzLook.Inv w0 w w' base g (fun q => ok q ∧ some q ≠ (Value.slice B b.length cb).ownBlock) v v1 acc1) ∧ Aside0 (Kd.R (Kd.int .i64) 3 w' base ok (.slice B b.length cb) b) ∧ Aside0 (Kd.F k44 w' (fun q => q < base) A0 cl.length cl))
    case atStart => exact ⟨0, v, acc, rfl, HH, ⟨Nat.le_refl _⟩, HI, HB, HC⟩
    case round =>
      clear HH HI HB HC
      obtain ⟨i, v1, acc1, rfl, HA, HK1, HI, HB, HC⟩ := hrel
      cases gk with
      | zero => exact absurd HA.out (by simp [spec_pzLook.l0])
      | succ k1 =>
        have h := HA.out
        clear HA
        simp only [spec_pzLook.l0] at h
        by_cases hi : i ≤ 5
        · rw [if_pos hi] at h
          have hi1 : decide (i ≤ 5) = true := decide_eq_true hi
          obtain ⟨t, ht, h⟩ := Option.bind_eq_some_iff.mp h
          by_cases hl : t.length < 17592186044416
          rotate_left
          · rw [if_neg hl] at h; cases h
          rw [if_pos hl] at h
          obtain ⟨tt, htt⟩ : ∃ y, y = t ++ [i] := ⟨_, rfl⟩
          rw [← htt] at h
          have HTT := Aside0.mk htt
          clear htt
          obtain ⟨acc2, hr, h⟩ := Option.bind_eq_some_iff.mp h
          have HT := Aside0.mk ht
          have HR := Aside0.mk hr
          have HH := Aside0.mk h
          have HL := Aside0.mk hl
          clear ht hr h hl
          go_wp2_with fail
          refine (spec_l1Own.calls B cb b t wr (Kd.R_reads' HB.out).2.2 (Kd.R_reads' HB.out).2.1 HT.out).mono ?_
          rintro e w1 ⟨vt, rfl, ho1, hb1⟩
          have HO := Aside0.mk ho1
          have HB1 := Aside0.mk hb1
          clear ho1 hb1
          go_wp2_with (first | ((with_reducible refine gate_builtin (b := .append) (xs := #[.tmp 21, .tmp 23]) rfl ?_); at_builtin; refine Kd.R_append (Kd.int .i64) (w0 := wr) wr.heap.size rfl (.tmp 21) (.tmp 23) 22 3 (.int .i64 0) 8 rfl Try.underlying22 info3 rfl (by decide) (by omega) vt t i [.int .i64 i] (fun _ => True) (fun _ => False) rfl rfl ?aP (fun _ hk => hk.elim) ?aF ?aO ?aB ?aS ?aL ?_; (case aP => exact rfl); (case aF => exact fun _ _ => trivial); (case aO => exact HO.out); (case aB => exact HB1.out); (case aS => exact HB1.out.size); (case aL => have := HL.out; omega); intro v2 w2 ho2 hb2 hg2 hat2; rw [← HTT.out] at ho2; obtain ⟨A2, c2, e2⟩ := Kd.R_slice ho2; subst e2; have HO2 := Aside0.mk ho2; have HB2 := Aside0.mk hb2; clear ho2 hb2 hg2 hat2))
          have hbs1 : base ≤ wr.heap.size := Nat.le_trans hbs HI.out.size
          have hown2 : ∀ q, (Value.slice A2 tt.length c2).ownBlock = some q → wr.heap.size ≤ q := Kd.R_base HO2.out
          have hokc : ∀ q, wr.heap.size ≤ q → (fun q => ok q ∧ some q ≠ (Value.slice B b.length cb).ownBlock) q := fun q hq => ⟨HOK.out q (Nat.le_trans HI.out.size hq), fun he => by have := Kd.R_lt HB.out q he.symm; omega⟩
          have hk1 : k1 < k + 1 := by have := HK1.out; omega
          have hC2 : Kd.F k44 w2 (fun q => q < base) A0 cl.length cl := Kd.F_below HC.out HB2.out
          have hR2 : Kd.R (Kd.int .i64) 3 w2 base (fun q => ok q ∧ some q ≠ (Value.slice B b.length cb).ownBlock) (.slice A2 tt.length c2) tt := by
            have h1 := Kd.R_bound HO2.out
            have h2 := Kd.R_lower h1 hbs1
            exact Kd.R_mono h2 (fun q hq => hokc q hq.2.1)
          have hI20 : spec_pzLook.Inv w0 w2 w2 base g (fun q => (fun q => ok q ∧ some q ≠ (Value.slice B b.length cb).ownBlock) q ∧ some q ≠ (Value.slice A2 tt.length c2).ownBlock) v1 v1 acc1 := HI.out.fresh HB2.out hbs1 hown2
          have hok2 : ∀ q, w2.heap.size ≤ q → (fun q => ok q ∧ some q ≠ (Value.slice B b.length cb).ownBlock) q := fun q hq => hokc q (Nat.le_trans HB2.out.size hq)
          have hih := ih k1 hk1 (wrap64 (more - 1)) A0 c0 cl A2 c2 tt acc1 acc2 g v1 w0 w2 base (fun q => ok q ∧ some q ≠ (Value.slice B b.length cb).ownBlock) hC2 hc0 hR2 hI20 hok2 hbg (Nat.le_trans hbs1 HB2.out.size) HR.out
          clear hC2 hR2 hI20 hok2
          refine hih.mono ?_
          rintro e w3 ⟨rfl, v3, hI3⟩
          have hI2 := HI.out.now.below HB2.out hbs1
          have HI' := Aside0.mk (((HI.out.below HB2.out hbs1)).trans hI3)
          have HB' := Aside0.mk (hI3.kept hI2.hg (Kd.S_typed hI2.hS) (Kd.R_below HB.out HB2.out))
          have HC' := Aside0.mk (Kd.F_step (Kd.F_below HC.out HB2.out) (W1 := w3) (fun q hq hlt => hI3.keep q hlt (by omega) (fun he => by have := Kd.S_base hI2.hS q he.symm; omega)))
          clear hI3 hI2 HI HB HC HO2 HB2 HO HB1 hown2 hokc hbs1
          go_wp2_with fail
          go_roundg k1
          case measure => have := HK1.out; omega
          case rel => exact ⟨(wrap64 (i + 1)), v3, acc2, (by first | rfl | (simp; done) | (simp [*]; done)), HH, ⟨by have := HK1.out; omega⟩, HI', HB', HC'⟩
        · rw [if_neg hi] at h
          have hi1 : decide (i ≤ 5) = false := decide_eq_false hi
          obtain rfl := Option.some.inj h
          clear h
          go_wp2_with fail
          refine bodyPost_ret (results_list (rs := []) (vs := []) rfl (by decide) .nil) rfl ?_
          exact ⟨rfl, v1, HI.out.mono (fun q hq => hq.1)⟩
  · rw [if_neg hm] at h
    have hm1 : decide (more > 0) = false := decide_eq_false hm
    obtain ⟨sm, hs, h⟩ := Option.bind_eq_some_iff.mp h
    have HC := Aside0.mk hC
    have HB := Aside0.mk hB
    have HI := Aside0.mk hI
    have HH := Aside0.mk h
    have HOK := Aside0.mk hok
    have HS := Aside0.mk hs
    clear hC hB hI h hok hs
    go_enter Try.func123, Try.ntmps123
    go_wp2_with fail
    refine (spec_soSum.calls k B cb b sm w (Kd.R_reads' HB.out).2.2 (Kd.R_reads' HB.out).2.1 HS.out).mono ?_
    rintro e w1 ⟨rfl, ⟨nd, rfl⟩⟩
    have hbd : Below w.heap.size w (w.drewN nd) := pw_below_drewN (Below.refl _ _) nd
    have HB' := Aside0.mk (Kd.R_below HB.out hbd)
    have HI' := Aside0.mk (HI.out.below hbd hbs)
    have HC' := Aside0.mk (Kd.F_below HC.out hbd)
    clear HB HI HC hbd HS
    by_cases h0 : sm = 0
    · have HH := HH.out
      rw [if_pos h0] at HH
      obtain rfl := Option.some.inj HH
      have h1 : (sm == 0) = true := by simpa using h0
      go_wp2_with fail
      refine bodyPost_ret (results_list (rs := []) (vs := []) rfl (by decide) .nil) rfl ?_
      exact ⟨rfl, v, HI'.out.mono (fun q hq => hq.1)⟩
    · have HH := HH.out
      rw [if_neg h0] at HH
      have h1 : (sm == 0) = false := by simpa using h0
      have HH := Aside0.mk HH
      go_wp2_with fail
      go_loopg [32] k (fun kq v32 w' => ∃ (i : Int), v32 = .int .i64 i ∧ Aside0 (spec_pzLook.l1 kq cl b acc i = some r) ∧ Aside0 (kq ≤ k) ∧ Aside0 (spec_pzLook.Inv w0 w w' base g (fun q => ok q ∧ some q ≠ (Value.slice B b.length cb).ownBlock) v v acc) ∧ Aside0 (Kd.R (Kd.int .i64) 3 w' base ok (.slice B b.length cb) b) ∧ Aside0 (Kd.F k44 w' (fun q => q < base) A0 cl.length cl))
      case atStart => exact ⟨0, rfl, HH, ⟨Nat.le_refl _⟩, HI', HB', HC'⟩
      case round =>
        clear HH HI' HB' HC'
        obtain ⟨i, rfl, HA, HK1, HI, HB, HC⟩ := hrel
        cases gk with
        | zero => exact absurd HA.out (by simp [spec_pzLook.l1])
        | succ k1 =>
          have h := HA.out
          clear HA
          simp only [spec_pzLook.l1] at h
          have hbs1 : base ≤ wr.heap.size := Nat.le_trans hbs HI.out.size
          by_cases hi : i < (cl.length : Int)
          · rw [if_pos hi] at h
            have hi1 : decide (i < (cl.length : Int)) = true := decide_eq_true hi
            by_cases hi0 : 0 ≤ i
            rotate_left
            · rw [if_neg hi0] at h; cases h
            rw [if_pos hi0] at h
            obtain ⟨t, ht, h⟩ := Option.bind_eq_some_iff.mp h
            have hi01 : decide (0 ≤ i) = true := decide_eq_true hi0
            obtain ⟨ad, e0, hx0, hx1, hx2⟩ := at_T44 (Kd.F_now HC.out) i hi0 hi
            cases e0
            have HT := Aside0.mk ht
            have HH := Aside0.mk h
            clear ht h
            go_wp2_with (first | ((with_reducible refine gate_dst (N := 10) rfl ?_); (try (refine gate_guard (by rfl) ?_; dsimp only)); refine box_event ?hg (N := 10) ?hd (cs := #[.int .i64 0, .int .i64 0, .int .i64 0]) (t := 44) ?hr ?_; (case hd => rfl); (case hg => rfl); (case hr => first | (go_simp; done) | (go_simp; rfl)); intro gb hgb w2 hbox hb2; have hcz0 : w2.cell? ⟨gb, 0, none⟩ = some (.int .i64 0) := (blk_cell hbox 0).trans rfl; have hcz1 : w2.cell? ⟨gb, 1, none⟩ = some (.int .i64 0) := (blk_cell hbox 1).trans rfl; have hcz2 : w2.cell? ⟨gb, 2, none⟩ = some (.int .i64 0) := (blk_cell hbox 2).trans rfl; have hfz0 := blk_frozen hbox 0; have hfz1 := blk_frozen hbox 1; have hfz2 := blk_frozen hbox 2; have HB2 := Aside0.mk hb2; have HGB := Aside0.mk hgb; clear hb2 hgb hbox hx0 hx1 hx2))
            have hgb : wr.heap.size ≤ gb := Nat.le_of_eq HGB.out.symm
            have hb3 : Below wr.heap.size wr (((w2.setCell ⟨gb, 0, none⟩ (.int .i64 (rd_T44 cl i).f0)).setCell ⟨gb, 1, none⟩ (.int .i64 (rd_T44 cl i).f1)).setCell ⟨gb, 2, none⟩ (.int .i64 (rd_T44 cl i).f2)) := below_set (below_set (below_set HB2.out hgb) hgb) hgb
            refine (spec_pzFits.calls k1 (rd_T44 cl i).f0 (rd_T44 cl i).f1 (rd_T44 cl i).f2 B cb b t _ (Kd.R_reads' (Kd.R_below HB.out hb3)).2.2 (Kd.R_reads' HB.out).2.1 HT.out).mono ?_
            rintro e w3 ⟨rfl, hb4⟩
            have hb5 := below_step hb3 hb4
            have HB' := Aside0.mk (Kd.R_below HB.out hb5)
            have HI' := Aside0.mk (HI.out.below hb5 hbs1)
            have HC' := Aside0.mk (Kd.F_below HC.out hb5)
            clear HB HI HC hb3 hb4 hb5 HB2 HGB hgb hcz0 hcz1 hcz2 hfz0 hfz1 hfz2
            cases t
            · have h := HH.out
              rw [if_neg (by decide)] at h
              obtain rfl := Option.some.inj h
              clear h HH
              go_wp2_with fail
              refine bodyPost_ret (results_list (rs := []) (vs := []) rfl (by decide) .nil) rfl ?_
              exact ⟨rfl, v, HI'.out.mono (fun q hq => hq.1)⟩
            · have h := HH.out
              rw [if_pos rfl] at h
              have HH' := Aside0.mk h
              clear h HH
              go_wp2_with fail
              go_roundg k1
              case measure => have := HK1.out; omega
              case rel => exact ⟨(wrap64 (i + 1)), (by first | rfl | (simp; done) | (simp [*]; done)), HH', ⟨by have := HK1.out; omega⟩, HI', HB', HC'⟩
          · rw [if_neg hi] at h
            have hi1 : decide (i < (cl.length : Int)) = false := decide_eq_false hi
            by_cases hl : acc.length < 5864062014805
            rotate_left
            · rw [if_neg hl] at h; cases h
            rw [if_pos hl] at h
            have hr := Option.some.inj h
            clear h
            have hgc : wr.cell? ⟨g, 0, none⟩ = some v := (blk_cell HI.out.hg 0).trans rfl
            have HL := Aside0.mk hl
            have HR := Aside0.mk hr
            clear hl hr
            have hto : ∀ q, some q = (Value.slice B b.length cb).ownBlock → some q ≠ v.ownBlock := fun q hq he => by
              obtain ⟨cells, hc⟩ := Kd.R_typed HB.out q hq.symm
              obtain ⟨cells', hc'⟩ := Kd.S_typed HI.out.hS q he.symm
              rw [hc'] at hc; injection hc with hc; injection hc with _ hc; exact absurd hc (by decide)
            have hgo : some g ≠ v.ownBlock := fun he => by
              obtain ⟨cells', hc'⟩ := Kd.S_typed HI.out.hS g he.symm
              rw [HI.out.hg] at hc'; injection hc' with hc; injection hc with _ hc; exact absurd hc (by decide)
            have HTO := Aside0.mk hto
            have HGO := Aside0.mk hgo
            clear hto hgo
            go_wp2_with (first | ((with_reducible refine gate_builtin (b := .append) (xs := #[.tmp 44, .tmp 46]) rfl ?_); at_builtin; refine Kd.S_append (Kd.slice 3 (Kd.int .i64)) (w0 := w0) base rfl (.tmp 44) (.tmp 46) 68 22 (.slice none 0 0) 24 rfl Try.underlying68 info22 rfl (by decide) (by omega) v acc b [.slice B b.length cb] ok (fun q => some q = (Value.slice B b.length cb).ownBlock) rfl rfl ?aP ?aK ?aF ?aO ?aB ?aS ?aL ?_; (case aP => exact Kd.M_row (Kd.R_tight rfl HB.out)); (case aK => exact fun q hq => ⟨HB.out.1 q hq.symm, HTO.out q hq⟩); (case aF => exact fun q hq => HOK.out q (Nat.le_trans HI.out.size hq)); (case aO => exact Kd.S_mono HI.out.hS (fun q hq => ⟨hq.1, fun e => hq.2 e⟩)); (case aB => exact HI.out.hB); (case aS => exact hbs1); (case aL => have := HL.out; omega); intro v3 w3 hs3 hb3 hg3 hat3; rw [HR.out] at hs3; obtain ⟨A3, c3, e3⟩ := Kd.S_slice hs3; subst e3; have hg4 := blk_grown HI.out.hg hg3 HGO.out; have hgc4 : w3.cell? ⟨g, 0, none⟩ = some v := (blk_cell hg4 0).trans rfl; have hgf4 := blk_frozen hg4 0; have HS3 := Aside0.mk hs3; have HB3 := Aside0.mk hb3; have HG3 := Aside0.mk hg3; have HG4 := Aside0.mk hg4; have HAT3 := Aside0.mk hat3; clear hs3 hb3 hg3 hg4 hat3))
            refine bodyPost_end (results_list (rs := []) (vs := []) rfl (by decide) .nil) rfl ?_
            refine ⟨rfl, (.slice A3 r.length c3), ⟨?_, ?_, ?_, ?_, ?_, ?_⟩⟩
            · exact blk_put HG4.out 0 _ rfl
            · exact Kd.S_set HS3.out HG4.out (by decide) 0 _
            · exact HB3.out.setCell hbg _
            · exact Nat.le_trans HI.out.size (Nat.le_trans HG3.out.size (by simp [World.setCell]))
            · intro q hq hqg hqv
              refine (Below.heap_setCell w3 ⟨g, 0, none⟩ _ q hqg).trans ?_
              exact (HG3.out.block q (Nat.lt_of_lt_of_le hq HI.out.size) hqv).trans (HI.out.keep q hq hqg hqv)
            · rcases HAT3.out with e | ⟨q, e, hle⟩
              · exact .inl e
              · exact .inr ⟨q, e, Nat.le_trans HI.out.size hle⟩
/-! ### spec_pzAll: function 99 -/
def spec_pzAll.f (k : Nat) (a0 : Int) (l1 : List S44) : Option (List (List Int)) := spec_pzLook.f k a0 l1 [] []
set_option maxHeartbeats 8000000 in
set_option maxRecDepth 100000 in
theorem spec_pzAll.calls (k : Nat) (a0 : Int) (A1 : Option Addr) (c1 : Nat) (l1 : List S44) (r : List (List Int)) (w : World) (hr1 : Kd.C k44 w A1 l1.length l1) (hc1 : l1.length ≤ c1) (h : spec_pzAll.f k a0 l1 = some r) :
    Calls Try.prog 99 #[.int .i64 a0, .slice A1 l1.length c1] w fun e w' => ∃ v0_ : Value, e = .returned (v0_) ∧ Kd.S (Kd.slice 3 (Kd.int .i64)) 22 w' w.heap.size (fun _ => True) v0_ r ∧ Below w.heap.size w w' := by
  have HH := Aside0.mk (show spec_pzLook.f k a0 l1 [] [] = some r from h)
  have HC := Aside0.mk hr1
  have HC1 := Aside0.mk hc1
  have u68 := Try.underlying68
  clear h hr1 hc1
  go_enter Try.func99, Try.ntmps99
  go_wp2_with (first | ((with_reducible refine gate_dst (N := 5) rfl ?_); refine box_event ?hg (N := 5) ?hd (cs := #[.slice none 0 0]) (t := 68) ?hr ?_; (case hd => rfl); (case hg => rfl); (case hr => first | (go_simp; done) | (go_simp; rfl)); intro gb hgb w2 hbox hb2; have HB2 := Aside0.mk hb2; have HGB := Aside0.mk hgb; have HBOX := Aside0.mk hbox; clear hb2 hgb hbox))
  have hgb : w.heap.size ≤ gb := Nat.le_of_eq HGB.out.symm
  refine (spec_pzLook.calls k a0 A1 c1 l1 none 0 [] [] r gb (.slice none 0 0) w w2 w.heap.size (fun q => w.heap.size ≤ q) (Kd.F_mono (Kd.F_old (Kd.C_F (Kd.heap_iso _ (Kd.heap_pair (Kd.heap_int _) (Kd.heap_pair (Kd.heap_int _) (Kd.heap_int _)))) HC.out) HB2.out) (fun q hq => hq.2)) HC1.out (Kd.R_nil _ _ _ _ _) ⟨HBOX.out, Kd.S_nil _ _ _ _ _, HB2.out, Nat.le_refl _, fun _ _ _ _ => rfl, .inl rfl⟩ (fun q hq => Nat.le_trans HB2.out.size hq) hgb HB2.out.size HH.out).mono ?_
  rintro e w3 ⟨rfl, v3, hI⟩
  obtain ⟨A3, c3, e3⟩ := Kd.S_slice hI.hS
  subst e3
  have hgc : w3.cell? ⟨gb, 0, none⟩ = some (.slice A3 r.length c3) := (blk_cell hI.hg 0).trans rfl
  have HI := Aside0.mk hI
  clear hI
  go_wp2
  go_ret
  exact ⟨_, rfl, Kd.S_mono HI.out.hS (fun _ _ => trivial), HI.out.hB⟩
/-! ### spec_Solutions: function 58 -/
def spec_Solutions.f (k : Nat) (a0_0 : Int) (l0_1 : List (S44)) : Option ((List (List Int)) × Bool) := (spec_pzGood.f k a0_0 l0_1).bind fun t193 => (if t193 = true then ((spec_pzAll.f k a0_0 l0_1).bind fun t194 => (some (t194, true))) else (some (([] : List (List Int)), false)))
set_option maxHeartbeats 8000000 in
set_option maxRecDepth 100000 in
theorem spec_Solutions.calls (k : Nat) (a0_0 : Int) (A0_1 : Option Addr) (c0_1 : Nat) (l0_1 : List (S44)) (r1 : List (List Int)) (r2 : Bool) (w : World) (hr0_1 : Kd.C k44 w A0_1 l0_1.length l0_1) (hc0_1 : l0_1.length ≤ c0_1) (h : spec_Solutions.f k a0_0 l0_1 = some (r1, r2)) :
    Calls Try.prog 58 #[.agg #[.int .i64 a0_0, .slice A0_1 l0_1.length c0_1]] w fun e w' => ∃ v0_ : Value, e = .returned (.tuple #[v0_, .bool r2]) ∧ Kd.S (Kd.slice 3 (Kd.int .i64)) 22 w' w.heap.size (fun _ => True) v0_ r1 ∧ Below w.heap.size w w' := by
 have hu36 := Try.underlying36
 have HR0_1 := Aside0.mk hr0_1
 have HC0_1 := Aside0.mk hc0_1
 clear hr0_1 hc0_1
 have HB := Aside0.mk (Below.refl w.heap.size w)
 have H : ((spec_pzGood.f k a0_0 l0_1).bind fun t193 => (if t193 = true then ((spec_pzAll.f k a0_0 l0_1).bind fun t194 => (some (t194, true))) else (some (([] : List (List Int)), false)))) = some (r1, r2) := h
 clear h
 replace H := Option.bind_eq_some_iff.mp H
 obtain ⟨t193, A20, H⟩ := H
 replace H : (if t193 = true then ((spec_pzAll.f k a0_0 l0_1).bind fun t194 => (some (t194, true))) else (some (([] : List (List Int)), false))) = some (r1, r2) := H
 have A2 := Aside0.mk A20
 clear A20
 by_cases c3 : t193 = true
 ·subst c3
  have H1 : ((spec_pzAll.f k a0_0 l0_1).bind fun t194 => (some (t194, true))) = some (r1, r2) := by first | (rw [if_pos rfl] at H; exact H) | rfl
  clear H
  have H := H1
  clear H1
  replace H := Option.bind_eq_some_iff.mp H
  obtain ⟨t194, A40, H⟩ := H
  replace H : (some (t194, true)) = some (r1, r2) := H
  have A4 := Aside0.mk A40
  clear A40
  simp only [Option.some.injEq, Prod.mk.injEq] at H
  obtain ⟨rfl, rfl⟩ := H
  go_enter Try.func58, Try.ntmps58
  go_wp2_with (first | ((with_reducible refine gate_dst (N := 1) rfl ?_); refine box_event ?hg (N := 1) ?hd (cs := #[.int .i64 a0_0, .slice A0_1 l0_1.length c0_1]) (t := 36) ?hr ?_; (case hd => rfl); (case hg => rfl); (case hr => first | (go_simp; done) | (go_simp; rfl)); intro gb192 hg w5 hbox hb; have n0_ := Aside0.mk (below_step (by repeat (first | (with_reducible first | exact HB.out | apply below_alloc | apply pw_below_drewN | apply below_drew1) | exact HB.out)) hb); have n1_ := Aside0.mk (hbox); have n2_ := Aside0.mk ((by rw [hg]; exact (below_size (by repeat (first | (with_reducible first | exact HB.out | apply below_alloc | apply pw_below_drewN | apply below_drew1) | exact HB.out))) : w.heap.size ≤ gb192)); have n3_ := Aside0.mk ((by rw [hg]; exact (below_size (by repeat (first | (with_reducible first | exact HB.out | apply below_alloc | apply pw_below_drewN | apply below_drew1) | exact HB.out))) : w.heap.size ≤ gb192)); clear HB; have HB := n0_; have BK192 := n1_; have GW192 := n2_; have GE192 := n3_; clear n0_ n1_ n2_ n3_; clear hb hbox hg; have hcz6_0 : w5.cell? ⟨gb192, 0, none⟩ = some (.int .i64 a0_0) := (blk_cell BK192.out 0).trans rfl; have hcz6_1 : w5.cell? ⟨gb192, 1, none⟩ = some (.slice A0_1 l0_1.length c0_1) := (blk_cell BK192.out 1).trans rfl; have hfz6_0 := blk_frozen BK192.out 0; have hfz6_1 := blk_frozen BK192.out 1) | ((with_reducible refine gate_callee (f := 72) rfl ?_); refine goesL_ (some 5) rfl rfl Try.func72 (by kernel_rfl) rfl #[.agg #[.int .i64 a0_0, .slice A0_1 l0_1.length c0_1]] rfl (by (try simp only [List.map_toArray, List.map_cons, List.map_nil]); first | done | rfl | (simp only [List.length_drop, List.length_take]; rfl)) ?_; (with_reducible refine (spec_pzGood.calls k a0_0 _ _ l0_1 true _ ?side1 ?side2 A2.out).mono ?_); (case side1 => repeat (first | exact (Kd.C_below HR0_1.out HB.out) | (with_reducible refine Kd.C_alloc ?_ _) | (with_reducible refine Kd.C_drewN ?_ _) | (with_reducible refine Kd.C_drew ?_))); (case side2 => exact HC0_1.out); rintro e w7 ⟨rfl, hb⟩; refine ⟨_, rfl, ?_⟩; have n0_ := Aside0.mk (blk_below (g := gb192) (o := .cells #[.int .i64 a0_0, .slice A0_1 l0_1.length c0_1] 36 (0, 0)) (by (with_reducible repeat (first | refine bN ?_ _ | refine bD ?_ | refine bA ?_ _)); exact BK192.out) hb); have n1_ := Aside0.mk (below_step (by repeat (first | (with_reducible first | exact HB.out | apply below_alloc | apply pw_below_drewN | apply below_drew1 | refine below_set ?_ GE192.out) | exact HB.out)) hb); clear BK192; clear HB; have BK192 := n0_; have HB := n1_; clear n0_ n1_; (try clear hb); (try clear hb2); (try clear hk); (try clear hi); have hcz8_0 : w7.cell? ⟨gb192, 0, none⟩ = some (.int .i64 a0_0) := (blk_cell BK192.out 0).trans rfl; have hcz8_1 : w7.cell? ⟨gb192, 1, none⟩ = some (.slice A0_1 l0_1.length c0_1) := (blk_cell BK192.out 1).trans rfl; have hfz8_0 := blk_frozen BK192.out 0; have hfz8_1 := blk_frozen BK192.out 1) | ((with_reducible refine gate_callee (f := 99) rfl ?_); refine goesL_ (some 11) rfl rfl Try.func99 (by kernel_rfl) rfl #[.int .i64 a0_0, .slice A0_1 l0_1.length c0_1] rfl (by (try simp only [List.map_toArray, List.map_cons, List.map_nil]); first | done | rfl | (simp only [List.length_drop, List.length_take]; rfl)) ?_; (with_reducible refine (spec_pzAll.calls k a0_0 _ _ l0_1 t194 _ ?side1 ?side2 A4.out).mono ?_); (case side1 => repeat (first | exact (Kd.C_below HR0_1.out HB.out) | (with_reducible refine Kd.C_alloc ?_ _) | (with_reducible refine Kd.C_drewN ?_ _) | (with_reducible refine Kd.C_drew ?_))); (case side2 => exact HC0_1.out); rintro e w9 ⟨v195, rfl, ho0, hb⟩; refine ⟨_, rfl, ?_⟩; have n0_ := Aside0.mk (Kd.S_lower ho0 (below_size (by repeat (first | (with_reducible first | exact HB.out | apply below_alloc | apply pw_below_drewN | apply below_drew1 | refine below_set ?_ GE192.out) | exact HB.out)))); have n1_ := Aside0.mk (blk_below (g := gb192) (o := .cells #[.int .i64 a0_0, .slice A0_1 l0_1.length c0_1] 36 (0, 0)) (by (with_reducible repeat (first | refine bN ?_ _ | refine bD ?_ | refine bA ?_ _)); exact BK192.out) hb); have n2_ := Aside0.mk (below_step (by repeat (first | (with_reducible first | exact HB.out | apply below_alloc | apply pw_below_drewN | apply below_drew1 | refine below_set ?_ GE192.out) | exact HB.out)) hb); clear BK192; clear HB; have HO196 := n0_; have BK192 := n1_; have HB := n2_; clear n0_ n1_ n2_; (try clear hb); (try clear hb2); (try clear hk); (try clear hi); (try clear ho0)))
  go_ret2
  exact ⟨_, by first | rfl | (simp [errW_none, errW_some] <;> rfl) | (simp [*, errW_none, errW_some] <;> rfl), by (with_reducible repeat (first | apply Kd.S_alloc | apply Kd.S_drewN | apply Kd.S_drew)); exact HO196.out, by repeat (first | (with_reducible first | exact HB.out | apply below_alloc | apply pw_below_drewN | apply below_drew1 | refine below_set ?_ GE192.out) | exact HB.out)⟩
 ·replace c3 := Bool.eq_false_iff.mpr c3
  subst c3
  have H1 : (some (([] : List (List Int)), false)) = some (r1, r2) := by first | (rw [if_neg (show ¬ (false = true) by decide)] at H; exact H) | rfl
  clear H
  have H := H1
  clear H1
  simp only [Option.some.injEq, Prod.mk.injEq] at H
  obtain ⟨rfl, rfl⟩ := H
  go_enter Try.func58, Try.ntmps58
  go_wp2_with (first | ((with_reducible refine gate_dst (N := 1) rfl ?_); refine box_event ?hg (N := 1) ?hd (cs := #[.int .i64 a0_0, .slice A0_1 l0_1.length c0_1]) (t := 36) ?hr ?_; (case hd => rfl); (case hg => rfl); (case hr => first | (go_simp; done) | (go_simp; rfl)); intro gb192 hg w10 hbox hb; have n0_ := Aside0.mk (below_step (by repeat (first | (with_reducible first | exact HB.out | apply below_alloc | apply pw_below_drewN | apply below_drew1) | exact HB.out)) hb); have n1_ := Aside0.mk (hbox); have n2_ := Aside0.mk ((by rw [hg]; exact (below_size (by repeat (first | (with_reducible first | exact HB.out | apply below_alloc | apply pw_below_drewN | apply below_drew1) | exact HB.out))) : w.heap.size ≤ gb192)); have n3_ := Aside0.mk ((by rw [hg]; exact (below_size (by repeat (first | (with_reducible first | exact HB.out | apply below_alloc | apply pw_below_drewN | apply below_drew1) | exact HB.out))) : w.heap.size ≤ gb192)); clear HB; have HB := n0_; have BK192 := n1_; have GW192 := n2_; have GE192 := n3_; clear n0_ n1_ n2_ n3_; clear hb hbox hg; have hcz11_0 : w10.cell? ⟨gb192, 0, none⟩ = some (.int .i64 a0_0) := (blk_cell BK192.out 0).trans rfl; have hcz11_1 : w10.cell? ⟨gb192, 1, none⟩ = some (.slice A0_1 l0_1.length c0_1) := (blk_cell BK192.out 1).trans rfl; have hfz11_0 := blk_frozen BK192.out 0; have hfz11_1 := blk_frozen BK192.out 1) | ((with_reducible refine gate_callee (f := 72) rfl ?_); refine goesL_ (some 5) rfl rfl Try.func72 (by kernel_rfl) rfl #[.agg #[.int .i64 a0_0, .slice A0_1 l0_1.length c0_1]] rfl (by (try simp only [List.map_toArray, List.map_cons, List.map_nil]); first | done | rfl | (simp only [List.length_drop, List.length_take]; rfl)) ?_; (with_reducible refine (spec_pzGood.calls k a0_0 _ _ l0_1 false _ ?side1 ?side2 A2.out).mono ?_); (case side1 => repeat (first | exact (Kd.C_below HR0_1.out HB.out) | (with_reducible refine Kd.C_alloc ?_ _) | (with_reducible refine Kd.C_drewN ?_ _) | (with_reducible refine Kd.C_drew ?_))); (case side2 => exact HC0_1.out); rintro e w12 ⟨rfl, hb⟩; refine ⟨_, rfl, ?_⟩; have n0_ := Aside0.mk (blk_below (g := gb192) (o := .cells #[.int .i64 a0_0, .slice A0_1 l0_1.length c0_1] 36 (0, 0)) (by (with_reducible repeat (first | refine bN ?_ _ | refine bD ?_ | refine bA ?_ _)); exact BK192.out) hb); have n1_ := Aside0.mk (below_step (by repeat (first | (with_reducible first | exact HB.out | apply below_alloc | apply pw_below_drewN | apply below_drew1 | refine below_set ?_ GE192.out) | exact HB.out)) hb); clear BK192; clear HB; have BK192 := n0_; have HB := n1_; clear n0_ n1_; (try clear hb); (try clear hb2); (try clear hk); (try clear hi)))
  go_ret2
  exact ⟨_, by first | rfl | (simp [errW_none, errW_some] <;> rfl) | (simp [*, errW_none, errW_some] <;> rfl), by first | exact Kd.S_nil _ _ _ _ _ | exact Kd.N_nil _ _ _ _ _ | exact Kd.V_nil _ _ _ _ _ | exact Kd.Q_nil _ _ _ _ _ | exact Kd.R_nil _ _ _ _ _, by repeat (first | (with_reducible first | exact HB.out | apply below_alloc | apply pw_below_drewN | apply below_drew1 | refine below_set ?_ GE192.out) | exact HB.out)⟩

/-! ### impl_within: function 90 -/
def impl_within.f (a0 : Int) (a1 : Int) (a2 : Int) : Option (Bool) := if a1 ≤ a0 then (some (decide (a0 ≤ a2))) else (some false)
set_option maxHeartbeats 8000000 in
set_option maxRecDepth 100000 in
theorem impl_within.calls (a0 : Int) (a1 : Int) (a2 : Int) (r : Bool) (w : World) (h : impl_within.f a0 a1 a2 = some r) :
    Calls Try.prog 90 #[.int .i64 a0, .int .i64 a1, .int .i64 a2] w fun e w' => e = .returned (.bool r) ∧ Drawn0 w w' := by
 have H : (if a1 ≤ a0 then (some (decide (a0 ≤ a2))) else (some false)) = some r := h
 clear h
 by_cases c4 : a1 ≤ a0
 ·rw [if_pos c4] at H
  have c4b0 : decide (a1 ≤ a0) = true := decide_eq_true c4
  clear c4
  obtain rfl := Option.some.inj H
  go_enter Try.func90, Try.ntmps90
  go_wp2
  go_ret
  exact ⟨by first | rfl | (simp; done) | (simp [*]; done), by repeat (first | exact Drawn0.refl _ | apply Drawn0.step)⟩
 ·rw [if_neg c4] at H
  have c4b0 : decide (a1 ≤ a0) = false := decide_eq_false c4
  clear c4
  obtain rfl := Option.some.inj H
  go_enter Try.func90, Try.ntmps90
  go_wp2
  go_ret
  exact ⟨by first | rfl | (simp; done) | (simp [*]; done), by repeat (first | exact Drawn0.refl _ | apply Drawn0.step)⟩

/-! ### impl_isHiddenColours: function 74 -/
def impl_isHiddenColours.f (a0 : Int) : Option (Bool) := (impl_within.f a0 2 3).bind fun t197 => (some t197)
set_option maxHeartbeats 8000000 in
set_option maxRecDepth 100000 in
theorem impl_isHiddenColours.calls (a0 : Int) (r : Bool) (w : World) (h : impl_isHiddenColours.f a0 = some r) :
    Calls Try.prog 74 #[.int .i64 a0] w fun e w' => e = .returned (.bool r) ∧ Drawn0 w w' := by
 have H : ((impl_within.f a0 2 3).bind fun t197 => (some t197)) = some r := h
 clear h
 replace H := Option.bind_eq_some_iff.mp H
 obtain ⟨t197, A20, H⟩ := H
 replace H : (some t197) = some r := H
 have A2 := Aside0.mk A20
 clear A20
 obtain rfl := Option.some.inj H
 go_enter Try.func74, Try.ntmps74
 go_wp2_with (first | ((with_reducible refine gate_callee (f := 90) rfl ?_); refine goesL_ (some 4) rfl rfl Try.func90 (by kernel_rfl) rfl #[.int .i64 a0, .int .i64 2, .int .i64 3] rfl (by (try simp only [List.map_toArray, List.map_cons, List.map_nil]); first | done | rfl | (simp only [List.length_drop, List.length_take]; rfl)) ?_; (with_reducible refine (impl_within.calls a0 2 3 t197 _ A2.out).mono ?_); rintro e w' ⟨rfl, ⟨nd, rfl⟩⟩; refine ⟨_, rfl, ?_⟩))
 go_ret
 exact ⟨by first | rfl | (simp; done) | (simp [*]; done), by repeat (first | exact Drawn0.refl _ | apply Drawn0.step)⟩

/-! ### slices_IndexFunc_simpl_Clue_impl_Clue: function 108 -/
def slices_IndexFunc_simpl_Clue_impl_Clue.l0 : Nat → List (S44) → (Int → Int → Int → Option (Bool)) → Int → Int → Option (Int)
  | 0, _, _, _, _ => none
  | k + 1, x0, x1, x7, x8 => if x8 < x7 then (if 0 ≤ x8 then (if x8 < (x0.length : Int) then ((x1 ((rd_T44 x0 x8).f0) ((rd_T44 x0 x8).f1) ((rd_T44 x0 x8).f2)).bind fun t199 => (if t199 = true then (some x8) else (slices_IndexFunc_simpl_Clue_impl_Clue.l0 k x0 x1 x7 (wrap64 (x8 + 1))))) else (none)) else (none)) else (some (-1))
def slices_IndexFunc_simpl_Clue_impl_Clue.f (k : Nat) (l0 : List (S44)) (a1 : (Int → Int → Int → Option (Bool))) : Option (Int) := slices_IndexFunc_simpl_Clue_impl_Clue.l0 k l0 a1 (l0.length : Int) 0
set_option maxHeartbeats 8000000 in
set_option maxRecDepth 100000 in
theorem slices_IndexFunc_simpl_Clue_impl_Clue.calls (k : Nat) (A0 : Option Addr) (c0 : Nat) (l0 : List (S44)) (q1_ : Value) (a1 : (Int → Int → Int → Option (Bool))) (r : Int) (w : World) (hr0 : Kd.C k44 w A0 l0.length l0) (hc0 : l0.length ≤ c0) (hF1 : F80 w q1_ a1) (h : slices_IndexFunc_simpl_Clue_impl_Clue.f k l0 a1 = some r) :
    Calls Try.prog 108 #[.slice A0 l0.length c0, q1_] w fun e w' => e = .returned (.int .i64 r) ∧ Below w.heap.size w w' := by
 have hu44 := Try.underlying44
 have HR0 := Aside0.mk hr0
 have HC0 := Aside0.mk hc0
 clear hr0 hc0
 have HF1 := Aside0.mk hF1
 clear hF1
 have HB := Aside0.mk (Below.refl w.heap.size w)
 have H : (slices_IndexFunc_simpl_Clue_impl_Clue.l0 k l0 a1 (l0.length : Int) 0) = some r := h
 clear h
 have H' := Aside0.mk H
 clear H
 go_enter Try.func108, Try.ntmps108
 go_wp2
 go_loopg [8] k (fun kq v8 w' => ∃ (x8_1 : Int), v8 = .int .i64 x8_1 ∧ Aside0 (slices_IndexFunc_simpl_Clue_impl_Clue.l0 kq l0 a1 (l0.length : Int) x8_1 = some r) ∧ Aside0 (kq ≤ k) ∧ Aside0 (Below w.heap.size w w'))
 case atStart => exact ⟨(0), (by first | rfl | (simp; done) | (simp [*]; done)), H', ⟨Nat.le_refl _⟩, ⟨by repeat (first | (with_reducible first | exact HB.out | apply below_alloc | apply pw_below_drewN | apply below_drew1) | exact HB.out)⟩⟩
 case round =>
  clear H'
  try clear c1
  try clear p2
  obtain ⟨x8_1, rfl, HA, HK1, HB⟩ := hrel
  cases gk with
  | zero => exact absurd HA.out (by simp [slices_IndexFunc_simpl_Clue_impl_Clue.l0])
  | succ k1 =>
   have H := HA.out
   clear HA
   simp only [slices_IndexFunc_simpl_Clue_impl_Clue.l0] at H
   by_cases c3 : x8_1 < (l0.length : Int)
   ·rw [if_pos c3] at H
    have c3b0 : decide (x8_1 < (l0.length : Int)) = true := decide_eq_true c3
    clear c3
    by_cases c4 : 0 ≤ x8_1
    rotate_left
    ·rw [if_neg c4] at H
     exact absurd H (by simp)
    rw [if_pos c4] at H
    have c4b0 : decide (0 ≤ x8_1) = true := decide_eq_true c4
    clear c4
    by_cases c5 : x8_1 < (l0.length : Int)
    rotate_left
    ·rw [if_neg c5] at H
     exact absurd H (by simp)
    rw [if_pos c5] at H
    have c5b0 : decide (x8_1 < (l0.length : Int)) = true := decide_eq_true c5
    clear c5
    replace H := Option.bind_eq_some_iff.mp H
    obtain ⟨t199, A60, H⟩ := H
    replace H : (if t199 = true then (some x8_1) else (slices_IndexFunc_simpl_Clue_impl_Clue.l0 k1 l0 a1 (l0.length : Int) (wrap64 (x8_1 + 1)))) = some r := H
    have A6 := Aside0.mk A60
    clear A60
    by_cases c7 : t199 = true
    ·subst c7
     have H1 : (some x8_1) = some r := by first | (rw [if_pos rfl] at H; exact H) | rfl
     clear H
     have H := H1
     clear H1
     obtain rfl := Option.some.inj H
     have p198 : 0 ≤ (x8_1 : Int) := of_decide_eq_true (by first | (with_reducible assumption) | assumption)
     have q198 : x8_1 < (l0.length : Int) := of_decide_eq_true (by first | (with_reducible assumption) | assumption)
     obtain ⟨ad198, e198, hx198_0, hx198_1, hx198_2⟩ := at_T44 HR0.out x8_1 p198 q198
     cases e198
     replace hx198_0 := (HB.out.cell (World.block_lt_of_cell? w _ hx198_0)).trans hx198_0
     replace hx198_1 := (HB.out.cell (World.block_lt_of_cell? w _ hx198_1)).trans hx198_1
     replace hx198_2 := (HB.out.cell (World.block_lt_of_cell? w _ hx198_2)).trans hx198_2
     replace p198 := eq_true p198
     replace q198 := eq_true q198
     go_wp2_with (first | ((with_reducible refine gate_fn rfl ?_); refine goesF_ (some 16) rfl rfl q1_ #[.agg #[.int .i64 ((rd_T44 l0 x8_1).f0), .int .i64 ((rd_T44 l0 x8_1).f1), .int .i64 ((rd_T44 l0 x8_1).f2)]] rfl (by first | rfl | (go_simp; done)) (by (try simp only [List.map_toArray, List.map_cons, List.map_nil]); first | done | rfl | (simp only [List.length_drop, List.length_take]; rfl)) ?_; (refine (Runs.mono ((?side2 : F80 _ q1_ a1) ((rd_T44 l0 x8_1).f0) ((rd_T44 l0 x8_1).f1) ((rd_T44 l0 x8_1).f2) true _ ?side1 A6.out) ?_)); (case side1 => exact Below.refl _ _); (case side2 => exact F80_below HF1.out (by repeat (first | (with_reducible first | exact HB.out | apply below_alloc | apply pw_below_drewN | apply below_drew1) | exact HB.out))); rintro e w8 ⟨rfl, hb⟩; refine ⟨_, rfl, ?_⟩; have n0_ := Aside0.mk (below_step (by repeat (first | (with_reducible first | exact HB.out | apply below_alloc | apply pw_below_drewN | apply below_drew1) | exact HB.out)) hb); clear HB; have HB := n0_; clear n0_; (try clear hb); (try clear hb2); (try clear hk); (try clear hi)))
     go_ret
     exact ⟨by first | rfl | (simp [errW_none, errW_some] <;> rfl) | (simp [*, errW_none, errW_some] <;> rfl), by repeat (first | (with_reducible first | exact HB.out | apply below_alloc | apply pw_below_drewN | apply below_drew1) | exact HB.out)⟩
    ·replace c7 := Bool.eq_false_iff.mpr c7
     subst c7
     have H1 : (slices_IndexFunc_simpl_Clue_impl_Clue.l0 k1 l0 a1 (l0.length : Int) (wrap64 (x8_1 + 1))) = some r := by first | (rw [if_neg (show ¬ (false = true) by decide)] at H; exact H) | rfl
     clear H
     have H := H1
     clear H1
     have H' := Aside0.mk H
     clear H
     have p198 : 0 ≤ (x8_1 : Int) := of_decide_eq_true (by first | (with_reducible assumption) | assumption)
     have q198 : x8_1 < (l0.length : Int) := of_decide_eq_true (by first | (with_reducible assumption) | assumption)
     obtain ⟨ad198, e198, hx198_0, hx198_1, hx198_2⟩ := at_T44 HR0.out x8_1 p198 q198
     cases e198
     replace hx198_0 := (HB.out.cell (World.block_lt_of_cell? w _ hx198_0)).trans hx198_0
     replace hx198_1 := (HB.out.cell (World.block_lt_of_cell? w _ hx198_1)).trans hx198_1
     replace hx198_2 := (HB.out.cell (World.block_lt_of_cell? w _ hx198_2)).trans hx198_2
     replace p198 := eq_true p198
     replace q198 := eq_true q198
     go_wp2_with (first | ((with_reducible refine gate_fn rfl ?_); refine goesF_ (some 16) rfl rfl q1_ #[.agg #[.int .i64 ((rd_T44 l0 x8_1).f0), .int .i64 ((rd_T44 l0 x8_1).f1), .int .i64 ((rd_T44 l0 x8_1).f2)]] rfl (by first | rfl | (go_simp; done)) (by (try simp only [List.map_toArray, List.map_cons, List.map_nil]); first | done | rfl | (simp only [List.length_drop, List.length_take]; rfl)) ?_; (refine (Runs.mono ((?side2 : F80 _ q1_ a1) ((rd_T44 l0 x8_1).f0) ((rd_T44 l0 x8_1).f1) ((rd_T44 l0 x8_1).f2) false _ ?side1 A6.out) ?_)); (case side1 => exact Below.refl _ _); (case side2 => exact F80_below HF1.out (by repeat (first | (with_reducible first | exact HB.out | apply below_alloc | apply pw_below_drewN | apply below_drew1) | exact HB.out))); rintro e w9 ⟨rfl, hb⟩; refine ⟨_, rfl, ?_⟩; have n0_ := Aside0.mk (below_step (by repeat (first | (with_reducible first | exact HB.out | apply below_alloc | apply pw_below_drewN | apply below_drew1) | exact HB.out)) hb); clear HB; have HB := n0_; clear n0_; (try clear hb); (try clear hb2); (try clear hk); (try clear hi)))
     go_roundg k1
     case measure => have := HK1.out; omega
     case rel => exact ⟨(wrap64 (x8_1 + 1)), (by first | rfl | (simp; done) | (simp [*]; done)), H', ⟨by have := HK1.out; omega⟩, ⟨by repeat (first | (with_reducible first | exact HB.out | apply below_alloc | apply pw_below_drewN | apply below_drew1) | exact HB.out)⟩⟩
   ·rw [if_neg c3] at H
    have c3b0 : decide (x8_1 < (l0.length : Int)) = false := decide_eq_false c3
    clear c3
    obtain rfl := Option.some.inj H
    go_wp2
    go_ret
    exact ⟨by first | rfl | (simp [errW_none, errW_some] <;> rfl) | (simp [*, errW_none, errW_some] <;> rfl), by repeat (first | (with_reducible first | exact HB.out | apply below_alloc | apply pw_below_drewN | apply below_drew1) | exact HB.out)⟩

/-! ### slices_ContainsFunc_simpl_Clue_impl_Clue: function 75 -/
def slices_ContainsFunc_simpl_Clue_impl_Clue.f (k : Nat) (l0 : List (S44)) (a1 : (Int → Int → Int → Option (Bool))) : Option (Bool) := (slices_IndexFunc_simpl_Clue_impl_Clue.f k l0 a1).bind fun t200 => (some (decide (t200 ≥ 0)))
set_option maxHeartbeats 8000000 in
set_option maxRecDepth 100000 in
theorem slices_ContainsFunc_simpl_Clue_impl_Clue.calls (k : Nat) (A0 : Option Addr) (c0 : Nat) (l0 : List (S44)) (q1_ : Value) (a1 : (Int → Int → Int → Option (Bool))) (r : Bool) (w : World) (hr0 : Kd.C k44 w A0 l0.length l0) (hc0 : l0.length ≤ c0) (hF1 : F80 w q1_ a1) (h : slices_ContainsFunc_simpl_Clue_impl_Clue.f k l0 a1 = some r) :
    Calls Try.prog 75 #[.slice A0 l0.length c0, q1_] w fun e w' => e = .returned (.bool r) ∧ Below w.heap.size w w' := by
 have HR0 := Aside0.mk hr0
 have HC0 := Aside0.mk hc0
 clear hr0 hc0
 have HF1 := Aside0.mk hF1
 clear hF1
 have HB := Aside0.mk (Below.refl w.heap.size w)
 have H : ((slices_IndexFunc_simpl_Clue_impl_Clue.f k l0 a1).bind fun t200 => (some (decide (t200 ≥ 0)))) = some r := h
 clear h
 replace H := Option.bind_eq_some_iff.mp H
 obtain ⟨t200, A30, H⟩ := H
 replace H : (some (decide (t200 ≥ 0))) = some r := H
 have A3 := Aside0.mk A30
 clear A30
 obtain rfl := Option.some.inj H
 go_enter Try.func75, Try.ntmps75
 go_wp2_with (first | ((with_reducible refine gate_callee (f := 108) rfl ?_); refine goesL_ (some 7) rfl rfl Try.func108 (by kernel_rfl) rfl #[.slice A0 l0.length c0, q1_] rfl (by (try simp only [List.map_toArray, List.map_cons, List.map_nil]); first | done | rfl | (simp only [List.length_drop, List.length_take]; rfl)) ?_; (with_reducible refine (slices_IndexFunc_simpl_Clue_impl_Clue.calls k _ _ l0 _ a1 t200 _ ?side1 ?side2 ?side3 A3.out).mono ?_); (case side1 => repeat (first | exact HR0.out | (with_reducible refine Kd.C_alloc ?_ _) | (with_reducible refine Kd.C_drewN ?_ _) | (with_reducible refine Kd.C_drew ?_))); (case side2 => exact HC0.out); (case side3 => exact F80_below HF1.out (by repeat (first | (with_reducible first | exact HB.out | apply below_alloc | apply pw_below_drewN | apply below_drew1) | exact HB.out))); rintro e w4 ⟨rfl, hb⟩; refine ⟨_, rfl, ?_⟩; have n0_ := Aside0.mk (below_step (by repeat (first | (with_reducible first | exact HB.out | apply below_alloc | apply pw_below_drewN | apply below_drew1) | exact HB.out)) hb); clear HB; have HB := n0_; clear n0_; (try clear hb); (try clear hb2); (try clear hk); (try clear hi)))
 go_ret
 exact ⟨by first | rfl | (simp [errW_none, errW_some] <;> rfl) | (simp [*, errW_none, errW_some] <;> rfl), by repeat (first | (with_reducible first | exact HB.out | apply below_alloc | apply pw_below_drewN | apply below_drew1) | exact HB.out)⟩

/-! ### impl_IsClue: function 77 -/
mutual
def impl_IsClue.j0 : Nat → Int → Bool → Int → Int → Int → Option (Bool)
  | 0, _, _, _, _, _ => none
  | k + 1, x0, x13, x202000, x202001, x202002 => if x13 = true then (some false) else (if x202000 = 0 then (impl_IsClue.j1 k x0 x202000 (x202000 == 0) x202000 x202001 x202002) else (if x202000 = 2 then (impl_IsClue.j1 k x0 x202000 (x202000 == 2) x202000 x202001 x202002) else (impl_IsClue.j1 k x0 x202000 (x202000 == 5) x202000 x202001 x202002)))
def impl_IsClue.j1 : Nat → Int → Int → Bool → Int → Int → Int → Option (Bool)
  | 0, _, _, _, _, _, _ => none
  | k + 1, x0, x15, x16, x202000, x202001, x202002 => if x16 = true then (some (x202001 == 0)) else (if x15 = 1 then ((impl_within.f x202001 0 (wrap64 (x0 - 1))).bind fun t204 => (some t204)) else (if x15 = 3 then ((impl_within.f x202001 1 6).bind fun t205 => (some t205)) else (if x15 = 4 then ((impl_within.f x202001 0 (wrap64 (x0 - 1))).bind fun t206 => (if t206 = true then (some (decide (x202002 ≤ 1))) else (some false))) else (some false))))
end
def impl_IsClue.f (k : Nat) (a0 : Int) (a1_0 : Int) (a1_1 : Int) (a1_2 : Int) : Option (Bool) := (impl_isHiddenColours.f a0).bind fun t202 => (if t202 = true then ((impl_within.f a1_2 0 15).bind fun t203 => (impl_IsClue.j0 k a0 (!t203) a1_0 a1_1 a1_2)) else (impl_IsClue.j0 k a0 true a1_0 a1_1 a1_2))
theorem impl_IsClue.mono_l : ∀ k, (∀ y0 y1 y2 y3 y4, LeO (impl_IsClue.j0 k y0 y1 y2 y3 y4) (impl_IsClue.j0 (k + 1) y0 y1 y2 y3 y4)) ∧ (∀ y0 y1 y2 y3 y4 y5, LeO (impl_IsClue.j1 k y0 y1 y2 y3 y4 y5) (impl_IsClue.j1 (k + 1) y0 y1 y2 y3 y4 y5))
  | 0 => ⟨fun _ _ _ _ _ r h => by simp [impl_IsClue.j0] at h, fun _ _ _ _ _ _ r h => by simp [impl_IsClue.j1] at h⟩
  | k + 1 => by
    obtain ⟨ih0, ih1⟩ := impl_IsClue.mono_l k
    refine ⟨?_, ?_⟩
    · intro y0 y1 y2 y3 y4
      unfold impl_IsClue.j0
      repeat' first
      | (with_reducible exact ih0 _ _ _ _ _)
      | (with_reducible exact ih1 _ _ _ _ _ _)
      | (with_reducible exact LeO.refl _)
      | (with_reducible exact LeO.none _)
      | (with_reducible refine LeO.ite ?_ ?_)
      | (with_reducible refine LeO.bind ?_ (fun _ => ?_))
      | exact ih0 _ _ _ _ _
      | exact ih1 _ _ _ _ _ _
      | exact LeO.none _
      | refine LeO.ite ?_ ?_
      | refine LeO.bind ?_ (fun _ => ?_)
    · intro y0 y1 y2 y3 y4 y5
      unfold impl_IsClue.j1
      repeat' first
      | (with_reducible exact ih0 _ _ _ _ _)
      | (with_reducible exact ih1 _ _ _ _ _ _)
      | (with_reducible exact LeO.refl _)
      | (with_reducible exact LeO.none _)
      | (with_reducible refine LeO.ite ?_ ?_)
      | (with_reducible refine LeO.bind ?_ (fun _ => ?_))
      | exact ih0 _ _ _ _ _
      | exact ih1 _ _ _ _ _ _
      | exact LeO.none _
      | refine LeO.ite ?_ ?_
      | refine LeO.bind ?_ (fun _ => ?_)
theorem impl_IsClue.mono : ∀ a0 a1 a2 a3 k, LeO (impl_IsClue.f k a0 a1 a2 a3) (impl_IsClue.f (k + 1) a0 a1 a2 a3) := by
  intro a0 a1 a2 a3 k
  obtain ⟨ih0, ih1⟩ := impl_IsClue.mono_l k
  unfold impl_IsClue.f
  repeat' first
      | (with_reducible exact ih0 _ _ _ _ _)
      | (with_reducible exact ih1 _ _ _ _ _ _)
      | (with_reducible exact LeO.refl _)
      | (with_reducible exact LeO.none _)
      | (with_reducible refine LeO.ite ?_ ?_)
      | (with_reducible refine LeO.bind ?_ (fun _ => ?_))
      | exact ih0 _ _ _ _ _
      | exact ih1 _ _ _ _ _ _
      | exact LeO.none _
      | refine LeO.ite ?_ ?_
      | refine LeO.bind ?_ (fun _ => ?_)
set_option maxHeartbeats 8000000 in
set_option maxRecDepth 100000 in
theorem impl_IsClue.calls (k : Nat) (a0 : Int) (a1_0 : Int) (a1_1 : Int) (a1_2 : Int) (r : Bool) (w : World) (h : impl_IsClue.f k a0 a1_0 a1_1 a1_2 = some r) :
    Calls Try.prog 77 #[.int .i64 a0, .agg #[.int .i64 a1_0, .int .i64 a1_1, .int .i64 a1_2]] w fun e w' => e = .returned (.bool r) ∧ Below w.heap.size w w' := by
 have hu44 := Try.underlying44
 have HB := Aside0.mk (Below.refl w.heap.size w)
 have H : ((impl_isHiddenColours.f a0).bind fun t202 => (if t202 = true then ((impl_within.f a1_2 0 15).bind fun t203 => (impl_IsClue.j0 k a0 (!t203) a1_0 a1_1 a1_2)) else (impl_IsClue.j0 k a0 true a1_0 a1_1 a1_2))) = some r := h
 clear h
 have HC3 := Aside0.mk H
 clear H
 go_enter Try.func77, Try.ntmps77
 go_upto_region 1 with (first | ((with_reducible refine gate_dst (N := 3) rfl ?_); refine box_event ?hg (N := 3) ?hd (cs := #[.int .i64 a1_0, .int .i64 a1_1, .int .i64 a1_2]) (t := 44) ?hr ?_; (case hd => rfl); (case hg => rfl); (case hr => first | (go_simp; done) | (go_simp; rfl)); intro gb201 hg w4 hbox hb; have n0_ := Aside0.mk (below_step (by repeat (first | (with_reducible first | exact HB.out | apply below_alloc | apply pw_below_drewN | apply below_drew1) | exact HB.out)) hb); have n1_ := Aside0.mk (hbox); have n2_ := Aside0.mk ((by rw [hg]; exact (below_size (by repeat (first | (with_reducible first | exact HB.out | apply below_alloc | apply pw_below_drewN | apply below_drew1) | exact HB.out))) : w.heap.size ≤ gb201)); have n3_ := Aside0.mk ((by rw [hg]; exact (below_size (by repeat (first | (with_reducible first | exact HB.out | apply below_alloc | apply pw_below_drewN | apply below_drew1) | exact HB.out))) : w.heap.size ≤ gb201)); clear HB; have HB := n0_; have BK201 := n1_; have GW201 := n2_; have GE201 := n3_; clear n0_ n1_ n2_ n3_; clear hb hbox hg))
 (try simp only [Act.put, List.setIfInBounds_toArray, List.set_cons_zero, List.set_cons_succ])
 go_cut [13] (fun v13 wc => ∃ (kq : Nat) (x13_2 : Bool), v13 = .bool x13_2 ∧ Aside0 (impl_IsClue.j0 kq a0 x13_2 a1_0 a1_1 a1_2 = some r) ∧ Aside0 (kq ≤ k) ∧ Aside0 (wc.heap[gb201]? = some (.cells #[.int .i64 a1_0, .int .i64 a1_1, .int .i64 a1_2] 44 (0, 0))) ∧ Aside0 (Below w.heap.size w wc))
 case first =>
  have H := HC3.out
  clear HC3
  replace H := Option.bind_eq_some_iff.mp H
  obtain ⟨t202, A50, H⟩ := H
  replace H : (if t202 = true then ((impl_within.f a1_2 0 15).bind fun t203 => (impl_IsClue.j0 k a0 (!t203) a1_0 a1_1 a1_2)) else (impl_IsClue.j0 k a0 true a1_0 a1_1 a1_2)) = some r := H
  have A5 := Aside0.mk A50
  clear A50
  by_cases c6 : t202 = true
  ·subst c6
   have H1 : ((impl_within.f a1_2 0 15).bind fun t203 => (impl_IsClue.j0 k a0 (!t203) a1_0 a1_1 a1_2)) = some r := by first | (rw [if_pos rfl] at H; exact H) | rfl
   clear H
   have H := H1
   clear H1
   replace H := Option.bind_eq_some_iff.mp H
   obtain ⟨t203, A70, H⟩ := H
   replace H : (impl_IsClue.j0 k a0 (!t203) a1_0 a1_1 a1_2) = some r := H
   have A7 := Aside0.mk A70
   clear A70
   have H' := Aside0.mk H
   clear H
   go_wp2_with (first | ((with_reducible refine gate_callee (f := 74) rfl ?_); refine goesL_ (some 6) rfl rfl Try.func74 (by kernel_rfl) rfl #[.int .i64 a0] rfl (by (try simp only [List.map_toArray, List.map_cons, List.map_nil]); first | done | rfl | (simp only [List.length_drop, List.length_take]; rfl)) ?_; (with_reducible refine (impl_isHiddenColours.calls a0 true _ A5.out).mono ?_); rintro e w' ⟨rfl, ⟨nd, rfl⟩⟩; refine ⟨_, rfl, ?_⟩; have hcz8_0 : w4.cell? ⟨gb201, 0, none⟩ = some (.int .i64 a1_0) := (blk_cell BK201.out 0).trans rfl; have hcz8_1 : w4.cell? ⟨gb201, 1, none⟩ = some (.int .i64 a1_1) := (blk_cell BK201.out 1).trans rfl; have hcz8_2 : w4.cell? ⟨gb201, 2, none⟩ = some (.int .i64 a1_2) := (blk_cell BK201.out 2).trans rfl; have hfz8_0 := blk_frozen BK201.out 0; have hfz8_1 := blk_frozen BK201.out 1; have hfz8_2 := blk_frozen BK201.out 2) | (go_at_call 90; (with_reducible refine (impl_within.calls a1_2 0 15 t203 _ A7.out).mono ?_); rintro e w' ⟨rfl, ⟨nd, rfl⟩⟩))
   go_meet
   case rel => exact ⟨_, (!t203), (by first | rfl | (simp; done) | (simp [*]; done)), H', ⟨by first | omega | exact Nat.le_refl _⟩, ⟨by (with_reducible repeat (first | refine bN ?_ _ | refine bD ?_ | refine bA ?_ _)); exact BK201.out⟩, ⟨by repeat (first | (with_reducible first | exact HB.out | apply below_alloc | apply pw_below_drewN | apply below_drew1 | refine below_set ?_ GE201.out) | exact HB.out)⟩⟩
  ·replace c6 := Bool.eq_false_iff.mpr c6
   subst c6
   have H1 : (impl_IsClue.j0 k a0 true a1_0 a1_1 a1_2) = some r := by first | (rw [if_neg (show ¬ (false = true) by decide)] at H; exact H) | rfl
   clear H
   have H := H1
   clear H1
   have H' := Aside0.mk H
   clear H
   go_wp2_with (first | ((with_reducible refine gate_callee (f := 74) rfl ?_); refine goesL_ (some 6) rfl rfl Try.func74 (by kernel_rfl) rfl #[.int .i64 a0] rfl (by (try simp only [List.map_toArray, List.map_cons, List.map_nil]); first | done | rfl | (simp only [List.length_drop, List.length_take]; rfl)) ?_; (with_reducible refine (impl_isHiddenColours.calls a0 false _ A5.out).mono ?_); rintro e w' ⟨rfl, ⟨nd, rfl⟩⟩; refine ⟨_, rfl, ?_⟩))
   go_meet
   case rel => exact ⟨_, (true), (by first | rfl | (simp; done) | (simp [*]; done)), H', ⟨by first | omega | exact Nat.le_refl _⟩, ⟨by (with_reducible repeat (first | refine bN ?_ _ | refine bD ?_ | refine bA ?_ _)); exact BK201.out⟩, ⟨by repeat (first | (with_reducible first | exact HB.out | apply below_alloc | apply pw_below_drewN | apply below_drew1 | refine below_set ?_ GE201.out) | exact HB.out)⟩⟩
 case rest =>
  clear HC3
  try clear p2
  try clear c6
  try clear c7
  try clear hcz8_0
  try clear hcz8_1
  try clear hcz8_2
  try clear hfz8_0
  try clear hfz8_1
  try clear hfz8_2
  obtain ⟨kq, x13_2, rfl, HA, HJ2, BK201, HB⟩ := hcut
  cases kq with
  | zero => exact absurd HA.out (by simp [impl_IsClue.j0])
  | succ kj2 =>
   have H := HA.out
   clear HA
   simp only [impl_IsClue.j0] at H
   by_cases c9 : x13_2 = true
   ·subst c9
    have H1 : (some false) = some r := by first | (rw [if_pos rfl] at H; exact H) | rfl
    clear H
    have H := H1
    clear H1
    obtain rfl := Option.some.inj H
    go_wp2
    go_ret
    exact ⟨by first | rfl | (simp [errW_none, errW_some] <;> rfl) | (simp [*, errW_none, errW_some] <;> rfl), by repeat (first | (with_reducible first | exact HB.out | apply below_alloc | apply pw_below_drewN | apply below_drew1 | refine below_set ?_ GE201.out) | exact HB.out)⟩
   ·replace c9 := Bool.eq_false_iff.mpr c9
    subst c9
    have H1 : (if a1_0 = 0 then (impl_IsClue.j1 kj2 a0 a1_0 (a1_0 == 0) a1_0 a1_1 a1_2) else (if a1_0 = 2 then (impl_IsClue.j1 kj2 a0 a1_0 (a1_0 == 2) a1_0 a1_1 a1_2) else (impl_IsClue.j1 kj2 a0 a1_0 (a1_0 == 5) a1_0 a1_1 a1_2))) = some r := by first | (rw [if_neg (show ¬ (false = true) by decide)] at H; exact H) | rfl
    clear H
    have H := H1
    clear H1
    have HC10 := Aside0.mk H
    clear H
    have hcz11_0 : wc.cell? ⟨gb201, 0, none⟩ = some (.int .i64 a1_0) := (blk_cell BK201.out 0).trans rfl
    have hcz11_1 : wc.cell? ⟨gb201, 1, none⟩ = some (.int .i64 a1_1) := (blk_cell BK201.out 1).trans rfl
    have hcz11_2 : wc.cell? ⟨gb201, 2, none⟩ = some (.int .i64 a1_2) := (blk_cell BK201.out 2).trans rfl
    have hfz11_0 := blk_frozen BK201.out 0
    have hfz11_1 := blk_frozen BK201.out 1
    have hfz11_2 := blk_frozen BK201.out 2
    go_upto_if 16 with (fail)
    go_cut [16] (fun v16 wc => ∃ (kq : Nat) (x16_9 : Bool), v16 = .bool x16_9 ∧ Aside0 (impl_IsClue.j1 kq a0 a1_0 x16_9 a1_0 a1_1 a1_2 = some r) ∧ Aside0 (kq ≤ kj2) ∧ Aside0 (wc.heap[gb201]? = some (.cells #[.int .i64 a1_0, .int .i64 a1_1, .int .i64 a1_2] 44 (0, 0))) ∧ Aside0 (Below w.heap.size w wc))
    case first =>
     have H := HC10.out
     clear HC10
     by_cases c12 : a1_0 = 0
     ·rw [if_pos c12] at H
      have c12b0 : (a1_0 == 0) = true := beq_iff_eq.mpr c12
      have c12b1 : (a1_0 != 0) = false := bne_eq_false_iff_eq.mpr c12
      clear c12
      (first | rw [c12b0] | (simp only [i64_w, i32_w]; rw [c12b0]) | skip)
      have H' := Aside0.mk H
      clear H
      go_wp2
      go_meet
      case rel => exact ⟨_, ((a1_0 == 0)), (by first | rfl | (simp; done) | (simp [*]; done)), H', ⟨by have := HJ2.out; first | omega | exact Nat.le_refl _⟩, ⟨by (with_reducible repeat (first | refine bN ?_ _ | refine bD ?_ | refine bA ?_ _)); exact BK201.out⟩, ⟨by repeat (first | (with_reducible first | exact HB.out | apply below_alloc | apply pw_below_drewN | apply below_drew1 | refine below_set ?_ GE201.out) | exact HB.out)⟩⟩
     ·rw [if_neg c12] at H
      have c12b0 : (a1_0 == 0) = false := beq_eq_false_iff_ne.mpr c12
      have c12b1 : (a1_0 != 0) = true := bne_iff_ne.mpr c12
      (first | rw [c12b0] | (simp only [i64_w, i32_w]; rw [c12b0]) | skip)
      by_cases c13 : a1_0 = 2
      ·rw [if_pos c13] at H
       have c13b0 : (a1_0 == 2) = true := beq_iff_eq.mpr c13
       have c13b1 : (a1_0 != 2) = false := bne_eq_false_iff_eq.mpr c13
       clear c13
       have H' := Aside0.mk H
       clear H
       go_wp2
       go_meet
       case rel => exact ⟨_, ((a1_0 == 2)), (by first | rfl | (simp; done) | (simp [*]; done)), H', ⟨by have := HJ2.out; first | omega | exact Nat.le_refl _⟩, ⟨by (with_reducible repeat (first | refine bN ?_ _ | refine bD ?_ | refine bA ?_ _)); exact BK201.out⟩, ⟨by repeat (first | (with_reducible first | exact HB.out | apply below_alloc | apply pw_below_drewN | apply below_drew1 | refine below_set ?_ GE201.out) | exact HB.out)⟩⟩
      ·rw [if_neg c13] at H
       have c13b0 : (a1_0 == 2) = false := beq_eq_false_iff_ne.mpr c13
       have c13b1 : (a1_0 != 2) = true := bne_iff_ne.mpr c13
       have H' := Aside0.mk H
       clear H
       go_wp2
       go_meet
       case rel => exact ⟨_, ((a1_0 == 5)), (by first | rfl | (simp; done) | (simp [*]; done)), H', ⟨by have := HJ2.out; first | omega | exact Nat.le_refl _⟩, ⟨by (with_reducible repeat (first | refine bN ?_ _ | refine bD ?_ | refine bA ?_ _)); exact BK201.out⟩, ⟨by repeat (first | (with_reducible first | exact HB.out | apply below_alloc | apply pw_below_drewN | apply below_drew1 | refine below_set ?_ GE201.out) | exact HB.out)⟩⟩
    case rest =>
     clear HC10
     try clear c1
     try clear p2
     try clear c6
     try clear c7
     try clear c9
     try clear c12
     try clear c12b0
     try clear c12b1
     try clear c13
     try clear c13b0
     try clear c13b1
     try clear hcz11_0
     try clear hcz11_1
     try clear hcz11_2
     try clear hcz8_0
     try clear hcz8_1
     try clear hcz8_2
     try clear hfz11_0
     try clear hfz11_1
     try clear hfz11_2
     try clear hfz8_0
     try clear hfz8_1
     try clear hfz8_2
     try clear p2
     obtain ⟨kq, x16_9, rfl, HA, HJ9, BK201, HB⟩ := hcut
     cases kq with
     | zero => exact absurd HA.out (by simp [impl_IsClue.j1])
     | succ kj9 =>
      have H := HA.out
      clear HA
      simp only [impl_IsClue.j1] at H
      by_cases c14 : x16_9 = true
      ·subst c14
       have H1 : (some (a1_1 == 0)) = some r := by first | (rw [if_pos rfl] at H; exact H) | rfl
       clear H
       have H := H1
       clear H1
       obtain rfl := Option.some.inj H
       have hcz15_0 : wc.cell? ⟨gb201, 0, none⟩ = some (.int .i64 a1_0) := (blk_cell BK201.out 0).trans rfl
       have hcz15_1 : wc.cell? ⟨gb201, 1, none⟩ = some (.int .i64 a1_1) := (blk_cell BK201.out 1).trans rfl
       have hcz15_2 : wc.cell? ⟨gb201, 2, none⟩ = some (.int .i64 a1_2) := (blk_cell BK201.out 2).trans rfl
       have hfz15_0 := blk_frozen BK201.out 0
       have hfz15_1 := blk_frozen BK201.out 1
       have hfz15_2 := blk_frozen BK201.out 2
       go_wp2
       go_ret
       exact ⟨by first | rfl | (simp [errW_none, errW_some] <;> rfl) | (simp [*, errW_none, errW_some] <;> rfl), by repeat (first | (with_reducible first | exact HB.out | apply below_alloc | apply pw_below_drewN | apply below_drew1 | refine below_set ?_ GE201.out) | exact HB.out)⟩
      ·replace c14 := Bool.eq_false_iff.mpr c14
       subst c14
       have H1 : (if a1_0 = 1 then ((impl_within.f a1_1 0 (wrap64 (a0 - 1))).bind fun t204 => (some t204)) else (if a1_0 = 3 then ((impl_within.f a1_1 1 6).bind fun t205 => (some t205)) else (if a1_0 = 4 then ((impl_within.f a1_1 0 (wrap64 (a0 - 1))).bind fun t206 => (if t206 = true then (some (decide (a1_2 ≤ 1))) else (some false))) else (some false)))) = some r := by first | (rw [if_neg (show ¬ (false = true) by decide)] at H; exact H) | rfl
       clear H
       have H := H1
       clear H1
       by_cases c16 : a1_0 = 1
       ·rw [if_pos c16] at H
        have c16b0 : (a1_0 == 1) = true := beq_iff_eq.mpr c16
        have c16b1 : (a1_0 != 1) = false := bne_eq_false_iff_eq.mpr c16
        clear c16
        replace H := Option.bind_eq_some_iff.mp H
        obtain ⟨t204, A170, H⟩ := H
        replace H : (some t204) = some r := H
        have A17 := Aside0.mk A170
        clear A170
        obtain rfl := Option.some.inj H
        have hcz18_0 : wc.cell? ⟨gb201, 0, none⟩ = some (.int .i64 a1_0) := (blk_cell BK201.out 0).trans rfl
        have hcz18_1 : wc.cell? ⟨gb201, 1, none⟩ = some (.int .i64 a1_1) := (blk_cell BK201.out 1).trans rfl
        have hcz18_2 : wc.cell? ⟨gb201, 2, none⟩ = some (.int .i64 a1_2) := (blk_cell BK201.out 2).trans rfl
        have hfz18_0 := blk_frozen BK201.out 0
        have hfz18_1 := blk_frozen BK201.out 1
        have hfz18_2 := blk_frozen BK201.out 2
        go_wp2_with (first | ((with_reducible refine gate_callee (f := 90) rfl ?_); refine goesL_ (some 29) rfl rfl Try.func90 (by kernel_rfl) rfl #[.int .i64 a1_1, .int .i64 0, .int .i64 (wrap64 (a0 - 1))] rfl (by (try simp only [List.map_toArray, List.map_cons, List.map_nil]); first | done | rfl | (simp only [List.length_drop, List.length_take]; rfl)) ?_; (with_reducible refine (impl_within.calls a1_1 0 (wrap64 (a0 - 1)) t204 _ A17.out).mono ?_); rintro e w' ⟨rfl, ⟨nd, rfl⟩⟩; refine ⟨_, rfl, ?_⟩))
        go_ret
        exact ⟨by first | rfl | (simp [errW_none, errW_some] <;> rfl) | (simp [*, errW_none, errW_some] <;> rfl), by repeat (first | (with_reducible first | exact HB.out | apply below_alloc | apply pw_below_drewN | apply below_drew1 | refine below_set ?_ GE201.out) | exact HB.out)⟩
       ·rw [if_neg c16] at H
        have c16b0 : (a1_0 == 1) = false := beq_eq_false_iff_ne.mpr c16
        have c16b1 : (a1_0 != 1) = true := bne_iff_ne.mpr c16
        by_cases c19 : a1_0 = 3
        ·rw [if_pos c19] at H
         have c19b0 : (a1_0 == 3) = true := beq_iff_eq.mpr c19
         have c19b1 : (a1_0 != 3) = false := bne_eq_false_iff_eq.mpr c19
         clear c19
         replace H := Option.bind_eq_some_iff.mp H
         obtain ⟨t205, A200, H⟩ := H
         replace H : (some t205) = some r := H
         have A20 := Aside0.mk A200
         clear A200
         obtain rfl := Option.some.inj H
         have hcz21_0 : wc.cell? ⟨gb201, 0, none⟩ = some (.int .i64 a1_0) := (blk_cell BK201.out 0).trans rfl
         have hcz21_1 : wc.cell? ⟨gb201, 1, none⟩ = some (.int .i64 a1_1) := (blk_cell BK201.out 1).trans rfl
         have hcz21_2 : wc.cell? ⟨gb201, 2, none⟩ = some (.int .i64 a1_2) := (blk_cell BK201.out 2).trans rfl
         have hfz21_0 := blk_frozen BK201.out 0
         have hfz21_1 := blk_frozen BK201.out 1
         have hfz21_2 := blk_frozen BK201.out 2
         go_wp2_with (first | ((with_reducible refine gate_callee (f := 90) rfl ?_); refine goesL_ (some 34) rfl rfl Try.func90 (by kernel_rfl) rfl #[.int .i64 a1_1, .int .i64 1, .int .i64 6] rfl (by (try simp only [List.map_toArray, List.map_cons, List.map_nil]); first | done | rfl | (simp only [List.length_drop, List.length_take]; rfl)) ?_; (with_reducible refine (impl_within.calls a1_1 1 6 t205 _ A20.out).mono ?_); rintro e w' ⟨rfl, ⟨nd, rfl⟩⟩; refine ⟨_, rfl, ?_⟩))
         go_ret
         exact ⟨by first | rfl | (simp [errW_none, errW_some] <;> rfl) | (simp [*, errW_none, errW_some] <;> rfl), by repeat (first | (with_reducible first | exact HB.out | apply below_alloc | apply pw_below_drewN | apply below_drew1 | refine below_set ?_ GE201.out) | exact HB.out)⟩
        ·rw [if_neg c19] at H
         have c19b0 : (a1_0 == 3) = false := beq_eq_false_iff_ne.mpr c19
         have c19b1 : (a1_0 != 3) = true := bne_iff_ne.mpr c19
         by_cases c22 : a1_0 = 4
         ·rw [if_pos c22] at H
          have c22b0 : (a1_0 == 4) = true := beq_iff_eq.mpr c22
          have c22b1 : (a1_0 != 4) = false := bne_eq_false_iff_eq.mpr c22
          clear c22
          replace H := Option.bind_eq_some_iff.mp H
          obtain ⟨t206, A230, H⟩ := H
          replace H : (if t206 = true then (some (decide (a1_2 ≤ 1))) else (some false)) = some r := H
          have A23 := Aside0.mk A230
          clear A230
          by_cases c24 : t206 = true
          ·subst c24
           have H1 : (some (decide (a1_2 ≤ 1))) = some r := by first | (rw [if_pos rfl] at H; exact H) | rfl
           clear H
           have H := H1
           clear H1
           obtain rfl := Option.some.inj H
           have hcz25_0 : wc.cell? ⟨gb201, 0, none⟩ = some (.int .i64 a1_0) := (blk_cell BK201.out 0).trans rfl
           have hcz25_1 : wc.cell? ⟨gb201, 1, none⟩ = some (.int .i64 a1_1) := (blk_cell BK201.out 1).trans rfl
           have hcz25_2 : wc.cell? ⟨gb201, 2, none⟩ = some (.int .i64 a1_2) := (blk_cell BK201.out 2).trans rfl
           have hfz25_0 := blk_frozen BK201.out 0
           have hfz25_1 := blk_frozen BK201.out 1
           have hfz25_2 := blk_frozen BK201.out 2
           go_wp2_with (first | ((with_reducible refine gate_callee (f := 90) rfl ?_); refine goesL_ (some 41) rfl rfl Try.func90 (by kernel_rfl) rfl #[.int .i64 a1_1, .int .i64 0, .int .i64 (wrap64 (a0 - 1))] rfl (by (try simp only [List.map_toArray, List.map_cons, List.map_nil]); first | done | rfl | (simp only [List.length_drop, List.length_take]; rfl)) ?_; (with_reducible refine (impl_within.calls a1_1 0 (wrap64 (a0 - 1)) true _ A23.out).mono ?_); rintro e w' ⟨rfl, ⟨nd, rfl⟩⟩; refine ⟨_, rfl, ?_⟩))
           go_ret
           exact ⟨by first | rfl | (simp [errW_none, errW_some] <;> rfl) | (simp [*, errW_none, errW_some] <;> rfl), by repeat (first | (with_reducible first | exact HB.out | apply below_alloc | apply pw_below_drewN | apply below_drew1 | refine below_set ?_ GE201.out) | exact HB.out)⟩
          ·replace c24 := Bool.eq_false_iff.mpr c24
           subst c24
           have H1 : (some false) = some r := by first | (rw [if_neg (show ¬ (false = true) by decide)] at H; exact H) | rfl
           clear H
           have H := H1
           clear H1
           obtain rfl := Option.some.inj H
           have hcz26_0 : wc.cell? ⟨gb201, 0, none⟩ = some (.int .i64 a1_0) := (blk_cell BK201.out 0).trans rfl
           have hcz26_1 : wc.cell? ⟨gb201, 1, none⟩ = some (.int .i64 a1_1) := (blk_cell BK201.out 1).trans rfl
           have hcz26_2 : wc.cell? ⟨gb201, 2, none⟩ = some (.int .i64 a1_2) := (blk_cell BK201.out 2).trans rfl
           have hfz26_0 := blk_frozen BK201.out 0
           have hfz26_1 := blk_frozen BK201.out 1
           have hfz26_2 := blk_frozen BK201.out 2
           go_wp2_with (first | ((with_reducible refine gate_callee (f := 90) rfl ?_); refine goesL_ (some 41) rfl rfl Try.func90 (by kernel_rfl) rfl #[.int .i64 a1_1, .int .i64 0, .int .i64 (wrap64 (a0 - 1))] rfl (by (try simp only [List.map_toArray, List.map_cons, List.map_nil]); first | done | rfl | (simp only [List.length_drop, List.length_take]; rfl)) ?_; (with_reducible refine (impl_within.calls a1_1 0 (wrap64 (a0 - 1)) false _ A23.out).mono ?_); rintro e w' ⟨rfl, ⟨nd, rfl⟩⟩; refine ⟨_, rfl, ?_⟩))
           go_ret
           exact ⟨by first | rfl | (simp [errW_none, errW_some] <;> rfl) | (simp [*, errW_none, errW_some] <;> rfl), by repeat (first | (with_reducible first | exact HB.out | apply below_alloc | apply pw_below_drewN | apply below_drew1 | refine below_set ?_ GE201.out) | exact HB.out)⟩
         ·rw [if_neg c22] at H
          have c22b0 : (a1_0 == 4) = false := beq_eq_false_iff_ne.mpr c22
          have c22b1 : (a1_0 != 4) = true := bne_iff_ne.mpr c22
          obtain rfl := Option.some.inj H
          go_wp2
          go_ret
          exact ⟨by first | rfl | (simp [errW_none, errW_some] <;> rfl) | (simp [*, errW_none, errW_some] <;> rfl), by repeat (first | (with_reducible first | exact HB.out | apply below_alloc | apply pw_below_drewN | apply below_drew1 | refine below_set ?_ GE201.out) | exact HB.out)⟩

/-! ### impl_IsPuzzle_1: function 76 -/
def impl_IsPuzzle_1.f (k : Nat) (a0_0 : Int) (a0_1 : Int) (a0_2 : Int) (a1_0 : Int) (l1_1 : List (S44)) : Option (Bool) := (impl_IsClue.f k a1_0 a0_0 a0_1 a0_2).bind fun t208 => (some (!t208))
set_option maxHeartbeats 8000000 in
set_option maxRecDepth 100000 in
theorem impl_IsPuzzle_1.calls (k : Nat) (a0_0 : Int) (a0_1 : Int) (a0_2 : Int) (gq1 : Nat) (a1_0 : Int) (A1_1 : Option Addr) (c1_1 : Nat) (l1_1 : List (S44)) (r : Bool) (w : World) (hq1 : w.heap[gq1]? = some (.cells #[.int .i64 a1_0, .slice A1_1 l1_1.length c1_1] 36 (0, 0))) (hr1_1 : Kd.C k44 w A1_1 l1_1.length l1_1) (hc1_1 : l1_1.length ≤ c1_1) (h : impl_IsPuzzle_1.f k a0_0 a0_1 a0_2 a1_0 l1_1 = some r) :
    Calls Try.prog 76 #[.agg #[.int .i64 a0_0, .int .i64 a0_1, .int .i64 a0_2], .pointer (some ⟨gq1, 0, none⟩)] w fun e w' => e = .returned (.bool r) ∧ Below w.heap.size w w' := by
 have hu44 := Try.underlying44
 have HR1_1 := Aside0.mk hr1_1
 have HC1_1 := Aside0.mk hc1_1
 clear hr1_1 hc1_1
 have BK1 := Aside0.mk hq1
 clear hq1
 have HB := Aside0.mk (Below.refl w.heap.size w)
 have H : ((impl_IsClue.f k a1_0 a0_0 a0_1 a0_2).bind fun t208 => (some (!t208))) = some r := h
 clear h
 replace H := Option.bind_eq_some_iff.mp H
 obtain ⟨t208, A20, H⟩ := H
 replace H : (some (!t208)) = some r := H
 have A2 := Aside0.mk A20
 clear A20
 obtain rfl := Option.some.inj H
 go_enter Try.func76, Try.ntmps76
 go_wp2_with (first | ((with_reducible refine gate_dst (N := 2) rfl ?_); refine box_event ?hg (N := 2) ?hd (cs := #[.int .i64 a0_0, .int .i64 a0_1, .int .i64 a0_2]) (t := 44) ?hr ?_; (case hd => rfl); (case hg => rfl); (case hr => first | (go_simp; done) | (go_simp; rfl)); intro gb207 hg w3 hbox hb; have n0_ := Aside0.mk (blk_below (g := gq1) (o := .cells #[.int .i64 a1_0, .slice A1_1 l1_1.length c1_1] 36 (0, 0)) (by (with_reducible repeat (first | refine bN ?_ _ | refine bD ?_ | refine bA ?_ _)); exact BK1.out) hb); have n1_ := Aside0.mk (below_step (by repeat (first | (with_reducible first | exact HB.out | apply below_alloc | apply pw_below_drewN | apply below_drew1 | refine below_set ?_ GE1.out) | exact HB.out)) hb); have n2_ := Aside0.mk (hbox); have n3_ := Aside0.mk ((by rw [hg]; exact (below_size (by repeat (first | (with_reducible first | exact HB.out | apply below_alloc | apply pw_below_drewN | apply below_drew1 | refine below_set ?_ GE1.out) | exact HB.out))) : w.heap.size ≤ gb207)); have n4_ := Aside0.mk ((by rw [hg]; exact (below_size (by repeat (first | (with_reducible first | exact HB.out | apply below_alloc | apply pw_below_drewN | apply below_drew1 | refine below_set ?_ GE1.out) | exact HB.out))) : w.heap.size ≤ gb207)); have n5_ := Aside0.mk ((by rw [hg]; exact Nat.ne_of_lt (blk_lt (g := gq1) (o := .cells #[.int .i64 a1_0, .slice A1_1 l1_1.length c1_1] 36 (0, 0)) (by (with_reducible repeat (first | refine bN ?_ _ | refine bD ?_ | refine bA ?_ _)); exact BK1.out)) : gq1 ≠ gb207)); have n6_ := Aside0.mk ((by rw [hg]; exact Nat.ne_of_gt (blk_lt (g := gq1) (o := .cells #[.int .i64 a1_0, .slice A1_1 l1_1.length c1_1] 36 (0, 0)) (by (with_reducible repeat (first | refine bN ?_ _ | refine bD ?_ | refine bA ?_ _)); exact BK1.out)) : gb207 ≠ gq1)); clear BK1; clear HB; have BK1 := n0_; have HB := n1_; have BK207 := n2_; have GW207 := n3_; have GE207 := n4_; have NB1_207 := n5_; have NB207_1 := n6_; clear n0_ n1_ n2_ n3_ n4_ n5_ n6_; clear hb hbox hg; have hnb4 := NB1_207.out; have hnc4 := NB207_1.out; have hcz5_0 : w3.cell? ⟨gq1, 0, none⟩ = some (.int .i64 a1_0) := (blk_cell BK1.out 0).trans rfl; have hcz5_1 : w3.cell? ⟨gq1, 1, none⟩ = some (.slice A1_1 l1_1.length c1_1) := (blk_cell BK1.out 1).trans rfl; have hfz5_0 := blk_frozen BK1.out 0; have hfz5_1 := blk_frozen BK1.out 1; have hcz6_0 : w3.cell? ⟨gb207, 0, none⟩ = some (.int .i64 a0_0) := (blk_cell BK207.out 0).trans rfl; have hcz6_1 : w3.cell? ⟨gb207, 1, none⟩ = some (.int .i64 a0_1) := (blk_cell BK207.out 1).trans rfl; have hcz6_2 : w3.cell? ⟨gb207, 2, none⟩ = some (.int .i64 a0_2) := (blk_cell BK207.out 2).trans rfl; have hfz6_0 := blk_frozen BK207.out 0; have hfz6_1 := blk_frozen BK207.out 1; have hfz6_2 := blk_frozen BK207.out 2) | ((with_reducible refine gate_callee (f := 77) rfl ?_); refine goesL_ (some 7) rfl rfl Try.func77 (by kernel_rfl) rfl #[.int .i64 a1_0, .agg #[.int .i64 a0_0, .int .i64 a0_1, .int .i64 a0_2]] rfl (by (try simp only [List.map_toArray, List.map_cons, List.map_nil]); first | done | rfl | (simp only [List.length_drop, List.length_take]; rfl)) ?_; (with_reducible refine (impl_IsClue.calls k a1_0 a0_0 a0_1 a0_2 t208 _ A2.out).mono ?_); rintro e w7 ⟨rfl, hb⟩; refine ⟨_, rfl, ?_⟩; have n0_ := Aside0.mk (blk_below (g := gq1) (o := .cells #[.int .i64 a1_0, .slice A1_1 l1_1.length c1_1] 36 (0, 0)) (by (with_reducible repeat (first | refine bN ?_ _ | refine bD ?_ | refine bA ?_ _)); exact BK1.out) hb); have n1_ := Aside0.mk (blk_below (g := gb207) (o := .cells #[.int .i64 a0_0, .int .i64 a0_1, .int .i64 a0_2] 44 (0, 0)) (by (with_reducible repeat (first | refine bN ?_ _ | refine bD ?_ | refine bA ?_ _)); exact BK207.out) hb); have n2_ := Aside0.mk (below_step (by repeat (first | (with_reducible first | exact HB.out | apply below_alloc | apply pw_below_drewN | apply below_drew1 | refine below_set ?_ GE1.out | refine below_set ?_ GE207.out) | exact HB.out)) hb); clear BK1; clear BK207; clear HB; have BK1 := n0_; have BK207 := n1_; have HB := n2_; clear n0_ n1_ n2_; (try clear hb); (try clear hb2); (try clear hk); (try clear hi)))
 go_ret
 exact ⟨by first | rfl | (simp [errW_none, errW_some] <;> rfl) | (simp [*, errW_none, errW_some] <;> rfl), by repeat (first | (with_reducible first | exact HB.out | apply below_alloc | apply pw_below_drewN | apply below_drew1 | refine below_set ?_ GE1.out | refine below_set ?_ GE207.out) | exact HB.out)⟩
theorem impl_IsPuzzle_1.asF (k : Nat) (gq1 : Nat) (a1_0 : Int) (A1_1 : Option Addr) (c1_1 : Nat) (l1_1 : List (S44)) (w : World) (hq1 : w.heap[gq1]? = some (.cells #[.int .i64 a1_0, .slice A1_1 l1_1.length c1_1] 36 (0, 0))) (hr1_1 : Kd.C k44 w A1_1 l1_1.length l1_1) (hc1_1 : l1_1.length ≤ c1_1) : F80 w (.func (.func 76) #[] #[.pointer (some ⟨gq1, 0, none⟩)]) (fun (b0 : Int) (b1 : Int) (b2 : Int) => impl_IsPuzzle_1.f k b0 b1 b2 a1_0 l1_1) := by
 intro b0 b1 b2 r W hB_ h_
 refine ⟨76, _, _, rfl, Try.func76, by kernel_rfl, rfl, ?_⟩
 refine calls_of_args (args' := #[.agg #[.int .i64 b0, .int .i64 b1, .int .i64 b2], .pointer (some ⟨gq1, 0, none⟩)]) (by rfl) ?_
 exact (impl_IsPuzzle_1.calls k b0 b1 b2 gq1 a1_0 A1_1 c1_1 l1_1 r W (blk_below hq1 hB_) (Kd.C_below hr1_1 hB_) hc1_1 h_).mono (fun e w' hz_ => hz_)

end Go.Proofs.Ytdddmkdidegngaa.PFnExactSolutions
