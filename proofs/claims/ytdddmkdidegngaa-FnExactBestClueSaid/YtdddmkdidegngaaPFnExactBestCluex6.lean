/- The functions that a law reaches, and proofs that the Go code comes to just their answers: written by a program of this session out of the translation. Conditions: those that each theorem states. -/
import Derived.Test.YtdddmkdidegngaaPFnExactBestCluex0
import Derived.Test.YtdddmkdidegngaaPFnExactBestCluex2
import Derived.Test.YtdddmkdidegngaaPFnExactBestCluex5
namespace Go.Proofs.Ytdddmkdidegngaa.PFnExactBestClue
open Go.RowKit Go.Proofs.YtdddmkdidegngaaW.PrintWords Go.Proofs.YtdddmkdidegngaaW.PrintLast Go.Proofs.YtdddmkdidegngaaW.PrintMore
attribute [local go_sem] max2_int min2_int max_two min_two max_three min_three max_four min_four   -- for this text's walks alone
set_option linter.unusedVariables false
set_option linter.unusedSimpArgs false

/-! ### spec_pzLook: function 123 -/
mutual
def spec_pzLook.f : Nat → Int → List S44 → List Int → List (List Int) → Option (List (List Int))
  | 0, _, _, _, _ => none
  | k + 1, more, cl, b, acc => if more > 0 then spec_pzLook.l0 k more cl b acc 0 else (spec_soSum.f k b).bind fun s => if s = 0 then some acc else spec_pzLook.l1 k cl b acc 0
def spec_pzLook.l0 : Nat → Int → List S44 → List Int → List (List Int) → Int → Option (List (List Int))
  | 0, _, _, _, _, _ => none
  | k + 1, more, cl, b, acc, i => if i ≤ 5 then (spec_l1Own.f b).bind fun t => if t.length < 17592186044416 then (spec_pzLook.f k (wrap64 (more - 1)) cl (t ++ [i]) acc).bind fun acc2 => spec_pzLook.l0 k more cl b acc2 (wrap64 (i + 1)) else none else some acc
def spec_pzLook.l1 : Nat → List S44 → List Int → List (List Int) → Int → Option (List (List Int))
  | 0, _, _, _, _ => none
  | k + 1, cl, b, acc, i => if i < (cl.length : Int) then (if 0 ≤ i then (spec_pzFits.f k (rd_T44 cl i).f0 (rd_T44 cl i).f1 (rd_T44 cl i).f2 b).bind fun t => if t = true then spec_pzLook.l1 k cl b acc (wrap64 (i + 1)) else some acc else none) else if acc.length < 5864062014805 then some (acc ++ [b]) else none
end
/-- What is known of the place that the found socks go to: v0, w at the call's begin; v, W now. -/
structure spec_pzLook.Inv (w0 w W : World) (base g : Nat) (ok : Nat → Prop) (v0 v : Value) (acc : List (List Int)) : Prop where
  hg : W.heap[g]? = some (.cells #[v] 68 (0, 0))
  hS : Kd.S (Kd.slice 3 (Kd.int .i64)) 22 W base ok v acc
  hB : Below base w0 W
  size : w.heap.size ≤ W.heap.size
  keep : ∀ q, q < w.heap.size → q ≠ g → some q ≠ v0.ownBlock → W.heap[q]? = w.heap[q]?
  at_ : v.ownBlock = v0.ownBlock ∨ ∃ q, v.ownBlock = some q ∧ w.heap.size ≤ q
theorem spec_pzLook.Inv.below {w0 w W W1 : World} {base g : Nat} {ok : Nat → Prop} {v0 v : Value} {acc : List (List Int)} (h : spec_pzLook.Inv w0 w W base g ok v0 v acc) (hb : Below W.heap.size W W1) (hbs : base ≤ W.heap.size) : spec_pzLook.Inv w0 w W1 base g ok v0 v acc :=
  ⟨blk_below h.hg hb, Kd.S_below h.hS hb, below_then h.hB hbs hb, Nat.le_trans h.size hb.size, fun q h1 h2 h3 => (hb.block q (Nat.lt_of_lt_of_le h1 h.size)).trans (h.keep q h1 h2 h3), h.at_⟩
theorem spec_pzLook.Inv.mono {w0 w W : World} {base g : Nat} {ok ok' : Nat → Prop} {v0 v : Value} {acc : List (List Int)} (h : spec_pzLook.Inv w0 w W base g ok v0 v acc) (hok : ∀ k, ok k → ok' k) : spec_pzLook.Inv w0 w W base g ok' v0 v acc :=
  ⟨h.hg, Kd.S_mono h.hS hok, h.hB, h.size, h.keep, h.at_⟩
theorem spec_pzLook.Inv.trans {w0 w W W1 : World} {base g : Nat} {ok ok' : Nat → Prop} {v0 v v1 : Value} {acc acc1 : List (List Int)} (h : spec_pzLook.Inv w0 w W base g ok v0 v acc) (h1 : spec_pzLook.Inv w0 W W1 base g ok' v v1 acc1) : spec_pzLook.Inv w0 w W1 base g ok' v0 v1 acc1 :=
  ⟨h1.hg, h1.hS, h1.hB, Nat.le_trans h.size h1.size, fun q hq hg hv => (h1.keep q (Nat.lt_of_lt_of_le hq h.size) hg (by
    rcases h.at_ with e | ⟨b, e, hle⟩
    · rw [e]; exact hv
    · rw [e]; intro he; injection he with he; omega)).trans (h.keep q hq hg hv), by
    rcases h1.at_ with e | ⟨b, e, hle⟩
    · rw [e]; exact h.at_
    · exact .inr ⟨b, e, Nat.le_trans h.size hle⟩⟩
/-- From here on: a new beginning. -/
theorem spec_pzLook.Inv.now {w0 w W : World} {base g : Nat} {ok : Nat → Prop} {v0 v : Value} {acc : List (List Int)} (h : spec_pzLook.Inv w0 w W base g ok v0 v acc) : spec_pzLook.Inv w0 W W base g ok v v acc :=
  ⟨h.hg, h.hS, h.hB, Nat.le_refl _, fun _ _ _ _ => rfl, .inl rfl⟩
theorem spec_pzLook.Inv.fresh {w0 w W W1 : World} {base g : Nat} {ok : Nat → Prop} {v0 v u : Value} {acc : List (List Int)} (h : spec_pzLook.Inv w0 w W base g ok v0 v acc) (hb : Below W.heap.size W W1) (hbs : base ≤ W.heap.size) (hu : ∀ q, u.ownBlock = some q → W.heap.size ≤ q) : spec_pzLook.Inv w0 W1 W1 base g (fun q => ok q ∧ some q ≠ u.ownBlock) v v acc :=
  ⟨blk_below h.hg hb, Kd.S_elder' h.hS hu hb, below_then h.hB hbs hb, Nat.le_refl _, fun _ _ _ _ => rfl, .inl rfl⟩
/-- A list of whole numbers that stays as it was. -/
theorem spec_pzLook.Inv.kept {w0 w W : World} {base g : Nat} {ok ok1 : Nat → Prop} {v0 v u : Value} {acc : List (List Int)} {b : List Int} (h : spec_pzLook.Inv w0 w W base g ok v0 v acc) (hg0 : w.heap[g]? = some (.cells #[v0] 68 (0, 0))) (hv0 : ∀ q, v0.ownBlock = some q → ∃ cells, w.heap[q]? = some (.cells cells 22 (0, 0))) (hR : Kd.R (Kd.int .i64) 3 w base ok1 u b) : Kd.R (Kd.int .i64) 3 W base ok1 u b := by
  refine Kd.R_mono (Kd.R_step (Kd.R_bound hR) (fun q hq hlt => h.keep q hlt ?_ ?_)) (fun q hq => hq.1)
  · rintro rfl
    obtain ⟨_, _, _, t, ht, cells, hc⟩ := hq
    rw [hg0] at hc; injection hc with hc; injection hc with _ hc
    have ht' : t ∈ [3] := ht
    have : t = 3 := by simpa using ht'
    rw [this] at hc; exact absurd hc (by decide)
  · intro he
    obtain ⟨_, _, _, t, ht, cells, hc⟩ := hq
    obtain ⟨cells', hc'⟩ := hv0 q he.symm
    rw [hc'] at hc; injection hc with hc; injection hc with _ hc
    have ht' : t ∈ [3] := ht
    have : t = 3 := by simpa using ht'
    rw [this] at hc; exact absurd hc (by decide)
set_option maxHeartbeats 8000000 in
set_option maxRecDepth 100000 in
theorem spec_pzLook.calls (k : Nat) : ∀ (more : Int) (A0 : Option Addr) (c0 : Nat) (cl : List S44) (B : Option Addr) (cb : Nat) (b : List Int) (acc r : List (List Int)) (g : Nat) (v : Value) (w0 w : World) (base : Nat) (ok : Nat → Prop),
    Kd.F k44 w (fun q => q < base) A0 cl.length cl → cl.length ≤ c0 → Kd.R (Kd.int .i64) 3 w base ok (.slice B b.length cb) b → spec_pzLook.Inv w0 w w base g (fun q => ok q ∧ some q ≠ (Value.slice B b.length cb).ownBlock) v v acc → (∀ q, w.heap.size ≤ q → ok q) → base ≤ g → base ≤ w.heap.size → spec_pzLook.f k more cl b acc = some r →
    Calls Try.prog 123 #[.int .i64 more, .slice A0 cl.length c0, .slice B b.length cb, .pointer (some ⟨g, 0, none⟩)] w fun e w' => e = .returned (.tuple #[]) ∧ ∃ v', spec_pzLook.Inv w0 w w' base g ok v v' r := by
  induction k using Nat.strongRecOn with
  | ind k ih =>
  intro more A0 c0 cl B cb b acc r g v w0 w base ok hC hc0 hB hI hok hbg hbs h
  cases k with
  | zero => simp [spec_pzLook.f] at h
  | succ k =>
  simp only [spec_pzLook.f] at h
  have u68 := Try.underlying68
  have u22 := Try.underlying22
  have u34 := Try.underlying34
  have u44 := Try.underlying44
  have u104 := Try.underlying104
  by_cases hm : more > 0
  · rw [if_pos hm] at h
    have hm1 : decide (more > 0) = true := decide_eq_true hm
    have HC := Aside0.mk hC
    have HB := Aside0.mk hB
    have HI := Aside0.mk hI
    have HH := Aside0.mk h
    have HOK := Aside0.mk hok
    clear hC hB hI h hok
    go_enter Try.func123, Try.ntmps123
    go_wp2_with fail
    go_loopg [8] k (fun kq v8 w' => ∃ (i : Int) (v1 : Value) (acc1 : List (List Int)), v8 = .int .i64 i ∧ Aside0 (spec_pzLook.l0 kq more cl b acc1 i = some r) ∧ Aside0 (kq ≤ k) ∧ Aside0 (spec_pzLook.Inv w0 w w' base g (fun q => ok q ∧ some q ≠ (Value.slice B b.length cb).ownBlock) v v1 acc1) ∧ Aside0 (Kd.R (Kd.int .i64) 3 w' base ok (.slice B b.length cb) b) ∧ Aside0 (Kd.F k44 w' (fun q => q < base) A0 cl.length cl))
    case atStart => exact ⟨0, v, acc, rfl, HH, ⟨Nat.le_refl _⟩, HI, HB, HC⟩
    case round =>
      clear HH HI HB HC
      obtain ⟨i, v1, acc1, rfl, HA, HK1, HI, HB, HC⟩ := hrel
      cases gk with
      | zero => exact absurd HA.out (by simp [spec_pzLook.l0])
      | succ k1 =>
        have h := HA.out
        clear HA
        simp only [spec_pzLook.l0] at h
        by_cases hi : i ≤ 5
        · rw [if_pos hi] at h
          have hi1 : decide (i ≤ 5) = true := decide_eq_true hi
          obtain ⟨t, ht, h⟩ := Option.bind_eq_some_iff.mp h
          by_cases hl : t.length < 17592186044416
          rotate_left
          · rw [if_neg hl] at h; cases h
          rw [if_pos hl] at h
          obtain ⟨tt, htt⟩ : ∃ y, y = t ++ [i] := ⟨_, rfl⟩
          rw [← htt] at h
          have HTT := Aside0.mk htt
          clear htt
          obtain ⟨acc2, hr, h⟩ := Option.bind_eq_some_iff.mp h
          have HT := Aside0.mk ht
          have HR := Aside0.mk hr
          have HH := Aside0.mk h
          have HL := Aside0.mk hl
          clear ht hr h hl
          go_wp2_with fail
          refine (spec_l1Own.calls B cb b t wr (Kd.R_reads' HB.out).2.2 (Kd.R_reads' HB.out).2.1 HT.out).mono ?_
          rintro e w1 ⟨vt, rfl, ho1, hb1⟩
          have HO := Aside0.mk ho1
          have HB1 := Aside0.mk hb1
          clear ho1 hb1
          go_wp2_with (first | ((with_reducible refine gate_builtin (b := .append) (xs := #[.tmp 21, .tmp 23]) rfl ?_); at_builtin; refine Kd.R_append (Kd.int .i64) (w0 := wr) wr.heap.size rfl (.tmp 21) (.tmp 23) 22 3 (.int .i64 0) 8 rfl Try.underlying22 info3 rfl (by decide) (by omega) vt t i [.int .i64 i] (fun _ => True) (fun _ => False) rfl rfl ?aP (fun _ hk => hk.elim) ?aF ?aO ?aB ?aS ?aL ?_; (case aP => exact rfl); (case aF => exact fun _ _ => trivial); (case aO => exact HO.out); (case aB => exact HB1.out); (case aS => exact HB1.out.size); (case aL => have := HL.out; omega); intro v2 w2 ho2 hb2 hg2 hat2; rw [← HTT.out] at ho2; obtain ⟨A2, c2, e2⟩ := Kd.R_slice ho2; subst e2; have HO2 := Aside0.mk ho2; have HB2 := Aside0.mk hb2; clear ho2 hb2 hg2 hat2))
          have hbs1 : base ≤ wr.heap.size := Nat.le_trans hbs HI.out.size
          have hown2 : ∀ q, (Value.slice A2 tt.length c2).ownBlock = some q → wr.heap.size ≤ q := Kd.R_base HO2.out
          have hokc : ∀ q, wr.heap.size ≤ q → (fun q => ok q ∧ some q ≠ (Value.slice B b.length cb).ownBlock) q := fun q hq => ⟨HOK.out q (Nat.le_trans HI.out.size hq), fun he => by have := Kd.R_lt HB.out q he.symm; omega⟩
          have hk1 : k1 < k + 1 := by have := HK1.out; omega
          have hC2 : Kd.F k44 w2 (fun q => q < base) A0 cl.length cl := Kd.F_below HC.out HB2.out
          have hR2 : Kd.R (Kd.int .i64) 3 w2 base (fun q => ok q ∧ some q ≠ (Value.slice B b.length cb).ownBlock) (.slice A2 tt.length c2) tt := by
            have h1 := Kd.R_bound HO2.out
            have h2 := Kd.R_lower h1 hbs1
            exact Kd.R_mono h2 (fun q hq => hokc q hq.2.1)
          have hI20 : spec_pzLook.Inv w0 w2 w2 base g (fun q => (fun q => ok q ∧ some q ≠ (Value.slice B b.length cb).ownBlock) q ∧ some q ≠ (Value.slice A2 tt.length c2).ownBlock) v1 v1 acc1 := HI.out.fresh HB2.out hbs1 hown2
          have hok2 : ∀ q, w2.heap.size ≤ q → (fun q => ok q ∧ some q ≠ (Value.slice B b.length cb).ownBlock) q := fun q hq => hokc q (Nat.le_trans HB2.out.size hq)
          have hih := ih k1 hk1 (wrap64 (more - 1)) A0 c0 cl A2 c2 tt acc1 acc2 g v1 w0 w2 base (fun q => ok q ∧ some q ≠ (Value.slice B b.length cb).ownBlock) hC2 hc0 hR2 hI20 hok2 hbg (Nat.le_trans hbs1 HB2.out.size) HR.out
          clear hC2 hR2 hI20 hok2
          refine hih.mono ?_
          rintro e w3 ⟨rfl, v3, hI3⟩
          have hI2 := HI.out.now.below HB2.out hbs1
          have HI' := Aside0.mk (((HI.out.below HB2.out hbs1)).trans hI3)
          have HB' := Aside0.mk (hI3.kept hI2.hg (Kd.S_typed hI2.hS) (Kd.R_below HB.out HB2.out))
          have HC' := Aside0.mk (Kd.F_step (Kd.F_below HC.out HB2.out) (W1 := w3) (fun q hq hlt => hI3.keep q hlt (by omega) (fun he => by have := Kd.S_base hI2.hS q he.symm; omega)))
          clear hI3 hI2 HI HB HC HO2 HB2 HO HB1 hown2 hokc hbs1
          go_wp2_with fail
          go_roundg k1
          case measure => have := HK1.out; omega
          case rel => exact ⟨(wrap64 (i + 1)), v3, acc2, (by first | rfl | (simp; done) | (simp [*]; done)), HH, ⟨by have := HK1.out; omega⟩, HI', HB', HC'⟩
        · rw [if_neg hi] at h
          have hi1 : decide (i ≤ 5) = false := decide_eq_false hi
          obtain rfl := Option.some.inj h
          clear h
          go_wp2_with fail
          refine bodyPost_ret (results_list (rs := []) (vs := []) rfl (by decide) .nil) rfl ?_
          exact ⟨rfl, v1, HI.out.mono (fun q hq => hq.1)⟩
  · rw [if_neg hm] at h
    have hm1 : decide (more > 0) = false := decide_eq_false hm
    obtain ⟨sm, hs, h⟩ := Option.bind_eq_some_iff.mp h
    have HC := Aside0.mk hC
    have HB := Aside0.mk hB
    have HI := Aside0.mk hI
    have HH := Aside0.mk h
    have HOK := Aside0.mk hok
    have HS := Aside0.mk hs
    clear hC hB hI h hok hs
    go_enter Try.func123, Try.ntmps123
    go_wp2_with fail
    refine (spec_soSum.calls k B cb b sm w (Kd.R_reads' HB.out).2.2 (Kd.R_reads' HB.out).2.1 HS.out).mono ?_
    rintro e w1 ⟨rfl, ⟨nd, rfl⟩⟩
    have hbd : Below w.heap.size w (w.drewN nd) := pw_below_drewN (Below.refl _ _) nd
    have HB' := Aside0.mk (Kd.R_below HB.out hbd)
    have HI' := Aside0.mk (HI.out.below hbd hbs)
    have HC' := Aside0.mk (Kd.F_below HC.out hbd)
    clear HB HI HC hbd HS
    by_cases h0 : sm = 0
    · have HH := HH.out
      rw [if_pos h0] at HH
      obtain rfl := Option.some.inj HH
      have h1 : (sm == 0) = true := by simpa using h0
      go_wp2_with fail
      refine bodyPost_ret (results_list (rs := []) (vs := []) rfl (by decide) .nil) rfl ?_
      exact ⟨rfl, v, HI'.out.mono (fun q hq => hq.1)⟩
    · have HH := HH.out
      rw [if_neg h0] at HH
      have h1 : (sm == 0) = false := by simpa using h0
      have HH := Aside0.mk HH
      go_wp2_with fail
      go_loopg [32] k (fun kq v32 w' => ∃ (i : Int), v32 = .int .i64 i ∧ Aside0 (spec_pzLook.l1 kq cl b acc i = some r) ∧ Aside0 (kq ≤ k) ∧ Aside0 (spec_pzLook.Inv w0 w w' base g (fun q => ok q ∧ some q ≠ (Value.slice B b.length cb).ownBlock) v v acc) ∧ Aside0 (Kd.R (Kd.int .i64) 3 w' base ok (.slice B b.length cb) b) ∧ Aside0 (Kd.F k44 w' (fun q => q < base) A0 cl.length cl))
      case atStart => exact ⟨0, rfl, HH, ⟨Nat.le_refl _⟩, HI', HB', HC'⟩
      case round =>
        clear HH HI' HB' HC'
        obtain ⟨i, rfl, HA, HK1, HI, HB, HC⟩ := hrel
        cases gk with
        | zero => exact absurd HA.out (by simp [spec_pzLook.l1])
        | succ k1 =>
          have h := HA.out
          clear HA
          simp only [spec_pzLook.l1] at h
          have hbs1 : base ≤ wr.heap.size := Nat.le_trans hbs HI.out.size
          by_cases hi : i < (cl.length : Int)
          · rw [if_pos hi] at h
            have hi1 : decide (i < (cl.length : Int)) = true := decide_eq_true hi
            by_cases hi0 : 0 ≤ i
            rotate_left
            · rw [if_neg hi0] at h; cases h
            rw [if_pos hi0] at h
            obtain ⟨t, ht, h⟩ := Option.bind_eq_some_iff.mp h
            have hi01 : decide (0 ≤ i) = true := decide_eq_true hi0
            obtain ⟨ad, e0, hx0, hx1, hx2⟩ := at_T44 (Kd.F_now HC.out) i hi0 hi
            cases e0
            have HT := Aside0.mk ht
            have HH := Aside0.mk h
            clear ht h
            go_wp2_with (first | ((with_reducible refine gate_dst (N := 10) rfl ?_); (try (refine gate_guard (by rfl) ?_; dsimp only)); refine box_event ?hg (N := 10) ?hd (cs := #[.int .i64 0, .int .i64 0, .int .i64 0]) (t := 44) ?hr ?_; (case hd => rfl); (case hg => rfl); (case hr => first | (go_simp; done) | (go_simp; rfl)); intro gb hgb w2 hbox hb2; have hcz0 : w2.cell? ⟨gb, 0, none⟩ = some (.int .i64 0) := (blk_cell hbox 0).trans rfl; have hcz1 : w2.cell? ⟨gb, 1, none⟩ = some (.int .i64 0) := (blk_cell hbox 1).trans rfl; have hcz2 : w2.cell? ⟨gb, 2, none⟩ = some (.int .i64 0) := (blk_cell hbox 2).trans rfl; have hfz0 := blk_frozen hbox 0; have hfz1 := blk_frozen hbox 1; have hfz2 := blk_frozen hbox 2; have HB2 := Aside0.mk hb2; have HGB := Aside0.mk hgb; clear hb2 hgb hbox hx0 hx1 hx2))
            have hgb : wr.heap.size ≤ gb := Nat.le_of_eq HGB.out.symm
            have hb3 : Below wr.heap.size wr (((w2.setCell ⟨gb, 0, none⟩ (.int .i64 (rd_T44 cl i).f0)).setCell ⟨gb, 1, none⟩ (.int .i64 (rd_T44 cl i).f1)).setCell ⟨gb, 2, none⟩ (.int .i64 (rd_T44 cl i).f2)) := below_set (below_set (below_set HB2.out hgb) hgb) hgb
            refine (spec_pzFits.calls k1 (rd_T44 cl i).f0 (rd_T44 cl i).f1 (rd_T44 cl i).f2 B cb b t _ (Kd.R_reads' (Kd.R_below HB.out hb3)).2.2 (Kd.R_reads' HB.out).2.1 HT.out).mono ?_
            rintro e w3 ⟨rfl, hb4⟩
            have hb5 := below_step hb3 hb4
            have HB' := Aside0.mk (Kd.R_below HB.out hb5)
            have HI' := Aside0.mk (HI.out.below hb5 hbs1)
            have HC' := Aside0.mk (Kd.F_below HC.out hb5)
            clear HB HI HC hb3 hb4 hb5 HB2 HGB hgb hcz0 hcz1 hcz2 hfz0 hfz1 hfz2
            cases t
            · have h := HH.out
              rw [if_neg (by decide)] at h
              obtain rfl := Option.some.inj h
              clear h HH
              go_wp2_with fail
              refine bodyPost_ret (results_list (rs := []) (vs := []) rfl (by decide) .nil) rfl ?_
              exact ⟨rfl, v, HI'.out.mono (fun q hq => hq.1)⟩
            · have h := HH.out
              rw [if_pos rfl] at h
              have HH' := Aside0.mk h
              clear h HH
              go_wp2_with fail
              go_roundg k1
              case measure => have := HK1.out; omega
              case rel => exact ⟨(wrap64 (i + 1)), (by first | rfl | (simp; done) | (simp [*]; done)), HH', ⟨by have := HK1.out; omega⟩, HI', HB', HC'⟩
          · rw [if_neg hi] at h
            have hi1 : decide (i < (cl.length : Int)) = false := decide_eq_false hi
            by_cases hl : acc.length < 5864062014805
            rotate_left
            · rw [if_neg hl] at h; cases h
            rw [if_pos hl] at h
            have hr := Option.some.inj h
            clear h
            have hgc : wr.cell? ⟨g, 0, none⟩ = some v := (blk_cell HI.out.hg 0).trans rfl
            have HL := Aside0.mk hl
            have HR := Aside0.mk hr
            clear hl hr
            have hto : ∀ q, some q = (Value.slice B b.length cb).ownBlock → some q ≠ v.ownBlock := fun q hq he => by
              obtain ⟨cells, hc⟩ := Kd.R_typed HB.out q hq.symm
              obtain ⟨cells', hc'⟩ := Kd.S_typed HI.out.hS q he.symm
              rw [hc'] at hc; injection hc with hc; injection hc with _ hc; exact absurd hc (by decide)
            have hgo : some g ≠ v.ownBlock := fun he => by
              obtain ⟨cells', hc'⟩ := Kd.S_typed HI.out.hS g he.symm
              rw [HI.out.hg] at hc'; injection hc' with hc; injection hc with _ hc; exact absurd hc (by decide)
            have HTO := Aside0.mk hto
            have HGO := Aside0.mk hgo
            clear hto hgo
            go_wp2_with (first | ((with_reducible refine gate_builtin (b := .append) (xs := #[.tmp 44, .tmp 46]) rfl ?_); at_builtin; refine Kd.S_append (Kd.slice 3 (Kd.int .i64)) (w0 := w0) base rfl (.tmp 44) (.tmp 46) 68 22 (.slice none 0 0) 24 rfl Try.underlying68 info22 rfl (by decide) (by omega) v acc b [.slice B b.length cb] ok (fun q => some q = (Value.slice B b.length cb).ownBlock) rfl rfl ?aP ?aK ?aF ?aO ?aB ?aS ?aL ?_; (case aP => exact Kd.M_row (Kd.R_tight rfl HB.out)); (case aK => exact fun q hq => ⟨HB.out.1 q hq.symm, HTO.out q hq⟩); (case aF => exact fun q hq => HOK.out q (Nat.le_trans HI.out.size hq)); (case aO => exact Kd.S_mono HI.out.hS (fun q hq => ⟨hq.1, fun e => hq.2 e⟩)); (case aB => exact HI.out.hB); (case aS => exact hbs1); (case aL => have := HL.out; omega); intro v3 w3 hs3 hb3 hg3 hat3; rw [HR.out] at hs3; obtain ⟨A3, c3, e3⟩ := Kd.S_slice hs3; subst e3; have hg4 := blk_grown HI.out.hg hg3 HGO.out; have hgc4 : w3.cell? ⟨g, 0, none⟩ = some v := (blk_cell hg4 0).trans rfl; have hgf4 := blk_frozen hg4 0; have HS3 := Aside0.mk hs3; have HB3 := Aside0.mk hb3; have HG3 := Aside0.mk hg3; have HG4 := Aside0.mk hg4; have HAT3 := Aside0.mk hat3; clear hs3 hb3 hg3 hg4 hat3))
            refine bodyPost_end (results_list (rs := []) (vs := []) rfl (by decide) .nil) rfl ?_
            refine ⟨rfl, (.slice A3 r.length c3), ⟨?_, ?_, ?_, ?_, ?_, ?_⟩⟩
            · exact blk_put HG4.out 0 _ rfl
            · exact Kd.S_set HS3.out HG4.out (by decide) 0 _
            · exact HB3.out.setCell hbg _
            · exact Nat.le_trans HI.out.size (Nat.le_trans HG3.out.size (by simp [World.setCell]))
            · intro q hq hqg hqv
              refine (Below.heap_setCell w3 ⟨g, 0, none⟩ _ q hqg).trans ?_
              exact (HG3.out.block q (Nat.lt_of_lt_of_le hq HI.out.size) hqv).trans (HI.out.keep q hq hqg hqv)
            · rcases HAT3.out with e | ⟨q, e, hle⟩
              · exact .inl e
              · exact .inr ⟨q, e, Nat.le_trans HI.out.size hle⟩
/-! ### spec_pzAll: function 99 -/
def spec_pzAll.f (k : Nat) (a0 : Int) (l1 : List S44) : Option (List (List Int)) := spec_pzLook.f k a0 l1 [] []
set_option maxHeartbeats 8000000 in
set_option maxRecDepth 100000 in
theorem spec_pzAll.calls (k : Nat) (a0 : Int) (A1 : Option Addr) (c1 : Nat) (l1 : List S44) (r : List (List Int)) (w : World) (hr1 : Kd.C k44 w A1 l1.length l1) (hc1 : l1.length ≤ c1) (h : spec_pzAll.f k a0 l1 = some r) :
    Calls Try.prog 99 #[.int .i64 a0, .slice A1 l1.length c1] w fun e w' => ∃ v0_ : Value, e = .returned (v0_) ∧ Kd.S (Kd.slice 3 (Kd.int .i64)) 22 w' w.heap.size (fun _ => True) v0_ r ∧ Below w.heap.size w w' := by
  have HH := Aside0.mk (show spec_pzLook.f k a0 l1 [] [] = some r from h)
  have HC := Aside0.mk hr1
  have HC1 := Aside0.mk hc1
  have u68 := Try.underlying68
  clear h hr1 hc1
  go_enter Try.func99, Try.ntmps99
  go_wp2_with (first | ((with_reducible refine gate_dst (N := 5) rfl ?_); refine box_event ?hg (N := 5) ?hd (cs := #[.slice none 0 0]) (t := 68) ?hr ?_; (case hd => rfl); (case hg => rfl); (case hr => first | (go_simp; done) | (go_simp; rfl)); intro gb hgb w2 hbox hb2; have HB2 := Aside0.mk hb2; have HGB := Aside0.mk hgb; have HBOX := Aside0.mk hbox; clear hb2 hgb hbox))
  have hgb : w.heap.size ≤ gb := Nat.le_of_eq HGB.out.symm
  refine (spec_pzLook.calls k a0 A1 c1 l1 none 0 [] [] r gb (.slice none 0 0) w w2 w.heap.size (fun q => w.heap.size ≤ q) (Kd.F_mono (Kd.F_old (Kd.C_F (Kd.heap_iso _ (Kd.heap_pair (Kd.heap_int _) (Kd.heap_pair (Kd.heap_int _) (Kd.heap_int _)))) HC.out) HB2.out) (fun q hq => hq.2)) HC1.out (Kd.R_nil _ _ _ _ _) ⟨HBOX.out, Kd.S_nil _ _ _ _ _, HB2.out, Nat.le_refl _, fun _ _ _ _ => rfl, .inl rfl⟩ (fun q hq => Nat.le_trans HB2.out.size hq) hgb HB2.out.size HH.out).mono ?_
  rintro e w3 ⟨rfl, v3, hI⟩
  obtain ⟨A3, c3, e3⟩ := Kd.S_slice hI.hS
  subst e3
  have hgc : w3.cell? ⟨gb, 0, none⟩ = some (.slice A3 r.length c3) := (blk_cell hI.hg 0).trans rfl
  have HI := Aside0.mk hI
  clear hI
  go_wp2
  go_ret
  exact ⟨_, rfl, Kd.S_mono HI.out.hS (fun _ _ => trivial), HI.out.hB⟩
end Go.Proofs.Ytdddmkdidegngaa.PFnExactBestClue
