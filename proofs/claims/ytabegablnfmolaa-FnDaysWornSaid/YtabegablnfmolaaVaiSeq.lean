/- slices.Values and slices.Sorted as rules of a run: each step holds of the model's own run. Conditions: those that each theorem states. -/
/- A checked abstract run of Go functions: slices.Values and slices.Sorted as rules of a run. -/
import Derived.Test.YtabegablnfmolaaVaiIter
import Derived.Test.YtabegablnfmolaaVaiSort
namespace Go.Proofs.YtabegablnfmolaaV
set_option linter.unusedVariables false
set_option linter.unusedSimpArgs false
open Go.RowKit
section
variable {P : Program} {X : Cx} {s : St} {a : Act} {w w' : World} {g g' : Gh}
/-- One block more that no one writes. -/
def Gh.plus (g : Gh) (k : Nat) : Gh := { g with ok := fun j => g.ok j ∨ j = k }
theorem mv_plus (hg : w.grownBy w' none) (k0 : Nat) : Mv w g (fun _ => False) w' (g.plus k0) := ⟨fun k hk hlt => ⟨hg.block k hlt (by simp), .inl hk⟩, fun _ _ hl => ⟨hl, rfl, rfl⟩⟩
theorem Sim.okNew (h : Sim X s a w g) {w' : World} (hg : w.grownBy w' none) (hs : w.heap.size < w'.heap.size) : Sim X s a w' (g.plus w.heap.size) := by
  have m : Mv w g (fun _ => False) w' (g.plus w.heap.size) := mv_plus hg _
  refine ⟨fun t => (h.env t).move m, h.live, fun n y hy => ?_, h.disj, fun n k hl hk => ?_, h.flat, fun k hk => ?_, h.size, h.defers, ?_, Nat.le_trans h.base hg.size, h.glob.move m.blk⟩
  · have hl : g.live n := (h.live n).2 (by rw [hy]; rfl)
    exact (h.blk n y hy).move m rfl rfl fun k hk => hg.block k (h.own n k hl hk).1 (by simp)
  · have := h.own n k hl hk
    exact ⟨Nat.lt_of_lt_of_le this.1 hg.size, this.2.1, fun e => e.elim this.2.2 fun e => absurd this.1 (by rw [e]; exact Nat.lt_irrefl _)⟩
  · rcases hk with hk | rfl
    · have := h.ok k hk
      exact ⟨Nat.lt_of_lt_of_le this.1 hg.size, this.2⟩
    · exact ⟨hs, fun e => absurd (Nat.lt_of_lt_of_le e h.base) (Nat.lt_irrefl _)⟩
  · exact ⟨hg.os.trans h.kept.os, hg.tape.trans h.kept.tape, hg.output.trans h.kept.output, Nat.le_trans h.kept.size hg.size, fun k hk hM => by
      rw [← h.kept.block k hk hM]
      exact hg.block k (Nat.lt_of_lt_of_le hk h.base) (by simp)⟩
theorem Chg.okNew (h : Sim X s a w g) {d : Nat} {T : List Nat} {w' : World} (hg : w.grownBy w' none) (k0 : Nat) : Chg d T w g w' (g.plus k0) :=
  ⟨fun k hk hlt => ⟨hg.block k hlt (by simp), .inl hk⟩, fun _ _ _ hl => ⟨hl, rfl, fun _ => rfl⟩, fun n k _ hl hk => ⟨hg.block k (h.own n k hl hk).1 (by simp), .inr hl⟩⟩
/-- slices.Values(x): a function value that is closed over x. -/
def valuesRule (f f1 : Nat) : Rule := ⟨f, fun _ s avs _ K => match avs with
  | [.row e t l] => K s (.fn f1 [.rptr [.row e t l] 0])
  | [.own b] => match hget s.heap b with
    | some (.row _ _ _ _) => K s (.fn f1 [.rptr [.own b] 0])
    | _ => none
  | _ => none⟩
theorem valuesRule_ok {f f1 : Nat} {tt : TypeId} (hfn : ∃ fn, P.funcs[f]? = some fn ∧ (fn.name == "runtime.NumGoroutine") = false ∧ fn.body.isSome = true)
    (hc : ∀ (a : Option Addr) (n c : Nat) (w : World), Calls P f #[.slice a n c] w fun e w' => e = .returned (.func (.func f1) #[] #[.pointer (some ⟨w.heap.size, 0, none⟩)]) ∧ w' = w.alloc (.cells #[.slice a n c] tt)) : RuleOk P (valuesRule f f1) := by
  refine ⟨hfn, fun X s a w g d avs vs α K xx h hdp hr he N hN => ?_⟩
  unfold valuesRule at he
  simp only at he
  split at he
  · rename_i e t l
    obtain ⟨v, rfl, hv⟩ : ∃ v, vs = [v] ∧ RV w g (.row e t l) v := by
      match vs, hr with
      | [v], hr => exact ⟨v, rfl, hr.1⟩
    have hv' : RowAt (Rep w g.ok t) t.sz w g.ok l v := hv
    obtain ⟨A, c, rfl, _⟩ := hv'
    refine (hc A l.length c w).mono ?_
    rintro e' w' ⟨rfl, rfl⟩
    have hg := World.grownBy_alloc w (.cells #[.slice A l.length c] tt) none
    have hs : w.heap.size < (w.alloc (.cells #[.slice A l.length c] tt)).heap.size := by
      show w.heap.size < (w.heap.push _).size
      rw [Array.size_push]; omega
    refine ⟨_, rfl, hN _ _ _ _ _ he (h.okNew hg hs) ?_ (Chg.okNew h hg _)⟩
    refine ⟨[.pointer (some ⟨w.heap.size, 0, none⟩)], rfl, ⟨w.heap.size, [.slice A l.length c], tt, .inr rfl, heap_alloc_new w _, ⟨RV.move (mv_plus hg _) hv, trivial⟩, rfl⟩, trivial⟩
  · rename_i b
    split at he
    · rename_i pin e t l hb
      obtain ⟨v, rfl, hv⟩ : ∃ v, vs = [v] ∧ RV w g (.own b) v := by
        match vs, hr with
        | [v], hr => exact ⟨v, rfl, hr.1⟩
      obtain ⟨A, n, c, hvs⟩ : ∃ A n c, v = .slice A n c := by
        rcases own_row h hb with ⟨_, h2⟩ | ⟨k, c, h2, _⟩
        · exact ⟨_, _, _, hv.2.trans h2⟩
        · exact ⟨_, _, _, hv.2.trans h2⟩
      subst hvs
      refine (hc A n c w).mono ?_
      rintro e' w' ⟨rfl, rfl⟩
      have hg := World.grownBy_alloc w (.cells #[.slice A n c] tt) none
      have hs : w.heap.size < (w.alloc (.cells #[.slice A n c] tt)).heap.size := by
        show w.heap.size < (w.heap.push _).size
        rw [Array.size_push]; omega
      refine ⟨_, rfl, hN _ _ _ _ _ he (h.okNew hg hs) ?_ (Chg.okNew h hg _)⟩
      exact ⟨[.pointer (some ⟨w.heap.size, 0, none⟩)], rfl, ⟨w.heap.size, [.slice A n c], tt, .inr rfl, heap_alloc_new w _, ⟨RV.move (mv_plus hg _) hv, trivial⟩, rfl⟩, trivial⟩
    · cases he
  · cases he
theorem owns_base {W : World} {base base' : Nat} {e : TypeId} {size : Nat} {v : Value} {k : Nat} {xs : List Value} (h : W.ownsRow base e size v k xs) (hb : base' ≤ base) : W.ownsRow base' e size v k xs :=
  ⟨h.1, h.2.imp id fun ⟨q, cap, cur, r1, r2, r3⟩ => ⟨q, cap, cur, r1, Nat.le_trans hb r2, r3⟩⟩
/-- The slice value v holds the numbers zs. -/
def IntsAt (w : World) (v : Value) (zs : List Int) : Prop := (∃ A c, v = .slice A 0 c ∧ zs = []) ∨ ∃ b off cap, v = .slice (some ⟨b, off, none⟩) zs.length cap ∧ b < w.heap.size ∧ ∀ j, j < zs.length → w.cell? ⟨b, off + j, none⟩ = some (.int .i64 (zs[j]?.getD 0))
theorem ints_at {zs : List Int} {v : Value} (h : RowAt (Rep w g.ok (.int .i64)) 1 w g.ok zs v) : IntsAt w v zs := by
  obtain ⟨A, cp, rfl, hle, _, hl⟩ := h
  cases zs with
  | nil => exact .inl ⟨A, cp, rfl, rfl⟩
  | cons x0 l =>
    rcases hl with e0 | ⟨ad, rfl, hok', hcell⟩
    · cases e0
    · have hat : ∀ (j : Nat) (y : Int), (x0 :: l)[j]? = some y → w.cell? (ad.add j) = some (.int .i64 y) := fun j y hj => by
        obtain ⟨cc, _, hrep, hcc⟩ := hcell j y hj
        obtain rfl : cc = [.int .i64 y] := hrep
        have := hcc 0 (.int .i64 y) rfl
        rwa [Nat.mul_one, Nat.add_zero] at this
      have hc0 := hat 0 x0 rfl
      have hs : ad.spot = none := by
        have h0 : w.cell? ad = some (.int .i64 x0) := by simpa [Addr.add] using hc0
        unfold World.cell? at h0
        split at h0
        · split at h0
          · cases h0
          · rename_i hsp; simpa using hsp
        · cases h0
      obtain ⟨bk, o, sp⟩ := ad
      obtain rfl : sp = none := hs
      have hadd : ∀ j, (⟨bk, o, none⟩ : Addr).add j = ⟨bk, o + j, none⟩ := fun j => by unfold Addr.add; split <;> simp_all
      refine .inr ⟨bk, o, cp, rfl, ?_, fun j hj => ?_⟩
      · exact cell_lt hc0
      · rw [← hadd]
        refine hat j _ ?_
        rw [List.getElem?_eq_getElem hj]; rfl
/-- slices.Sorted(slices.Values(x)): a new row. -/
def seqRule (f f1 e : Nat) : Rule := ⟨f, fun d s avs _ K => match avs with
  | [.fn g1 [.rptr [.row _ t l] 0]] => bif Nat.beq g1 f1 then (match castL (.int .i64) t l with
    | some l => chk (decide (List.length l ≤ 1000000000)) (match hget s.heap d with
      | none => K ⟨s.env, (d, .row false e (.int .i64) (sortI l)) :: s.heap⟩ (.own d)
      | some _ => none)
    | none => none) else none
  | [.fn g1 [.rptr [.own b] 0]] => bif Nat.beq g1 f1 then (match hget s.heap b with
    | some (.row _ _ t l) => match castL (.int .i64) t l with
      | some l => chk (decide (List.length l ≤ 1000000000)) (match hget s.heap d with
        | none => K ⟨s.env, (d, .row false e (.int .i64) (sortI l)) :: s.heap⟩ (.own d)
        | some _ => none)
      | none => none
    | _ => none) else none
  | _ => none⟩
theorem ints_own {b : Nat} {pin : Bool} {e : Nat} {l : List Int} (h : Sim X s a w g) (hb : hget s.heap b = some (.row pin e (.int .i64) l)) : IntsAt w (g.val b) l := by
  rcases own_row h hb with ⟨h1, h2⟩ | ⟨k, c, h2, h3, h4⟩
  · exact .inl ⟨none, 0, h2, List.eq_nil_of_length_eq_zero h1⟩
  · cases l with
    | nil => exact .inl ⟨_, _, h2, rfl⟩
    | cons x0 l =>
      have hat : ∀ (j : Nat) (y : Int), (x0 :: l)[j]? = some y → w.cell? ⟨k, j, none⟩ = some (.int .i64 y) := fun j y hj => by
        obtain ⟨cc, _, hrep, hcc⟩ := h4 j y hj
        obtain rfl : cc = [.int .i64 y] := hrep
        have := hcc 0 (.int .i64 y) rfl
        rw [show (Ty.int IntKind.i64).sz = 1 from rfl, Nat.mul_one, Nat.add_zero] at this
        rw [← this]
        unfold Addr.add
        split <;> simp_all
      refine .inr ⟨k, 0, c, h2, cell_lt (hat 0 x0 rfl), fun j hj => ?_⟩
      rw [Nat.zero_add]
      refine hat j _ ?_
      rw [List.getElem?_eq_getElem hj]; rfl
theorem seqRule_ok {f f1 e : Nat} (hfn : ∃ fn, P.funcs[f]? = some fn ∧ (fn.name == "runtime.NumGoroutine") = false ∧ fn.body.isSome = true)
    (hc : ∀ (bs : Nat) (tt : TypeId) (v : Value) (zs : List Int) (w : World), w.heap[bs]? = some (.cells #[v] tt (0, 0)) → IntsAt w v zs → zs.length ≤ 1000000000 →
      Calls P f #[.func (.func f1) #[] #[.pointer (some ⟨bs, 0, none⟩)]] w fun e' w' => ∃ u, e' = .returned u ∧ w'.ownsRow w.heap.size e 1 u zs.length ((sortI zs).map (Value.int .i64 ·)) ∧ Below w.heap.size w w') : RuleOk P (seqRule f f1 e) := by
  refine ⟨hfn, fun X s a w g d avs vs α K xx h hdp hr he N hN => ?_⟩
  unfold seqRule at he
  simp only at he
  split at he
  · rename_i g1 e1 t l
    obtain ⟨v, rfl, hv⟩ : ∃ v, vs = [v] ∧ RV w g (.fn g1 [.rptr [.row e1 t l] 0]) v := by
      match vs, hr with
      | [v], hr => exact ⟨v, rfl, hr.1⟩
    cases hbq : Nat.beq g1 f1 with
    | false => rw [hbq] at he; cases he
    | true =>
      rw [hbq, cond_true] at he
      obtain rfl := Nat.eq_of_beq_eq_true hbq
      split at he
      · rename_i l0 hcl
        obtain ⟨e0, hq⟩ := castL_some hcl
        cases e0
        obtain rfl := eq_of_heq hq
        obtain ⟨hlen, he⟩ := chk_some he
        split at he
        · rename_i hd
          obtain ⟨cs, rfl, hcs⟩ := hv
          match cs, hcs with
          | [p], ⟨⟨k, bs, e2, hk, hkb, hbs, hp⟩, _⟩ =>
            match bs, hbs with
            | [u0], ⟨hu, _⟩ =>
              have hp : p = .pointer (some ⟨k, 0, none⟩) := hp
              subst hp
              have hu' : RowAt (Rep w g.ok (.int .i64)) 1 w g.ok l0 u0 := hu
              refine (hc k e2 u0 l0 w hkb (ints_at hu') (of_decide_eq_true hlen)).mono ?_
              rintro e' w' ⟨u, rfl, ho, hb⟩
              have hg := below_grows hb
              have hsl : (sortI l0).length = l0.length := List.length_mergeSort (α := Int) (le := fun x y => decide (x ≤ y)) l0
              have ho' : w'.ownsRow X.B e (Ty.int .i64).sz u (sortI l0).length ((sortI l0).map (Value.int .i64 ·)) := by
                rw [hsl]; exact owns_base ho h.base
              have hv : ∀ k, blkOf u = some k → w.heap.size ≤ k ∧ k < w'.heap.size := fun k hk => by
                rcases ho.2 with ⟨rfl, _⟩ | ⟨gb, cap, cur, rfl, hbase, hgb, _⟩
                · cases hk
                · cases hk
                  exact ⟨hbase, (Array.getElem?_eq_some_iff.1 hgb).1⟩
              exact ⟨u, rfl, hN _ _ _ _ _ he (h.fresh (d := d) (x := .row false e (.int .i64) (sortI l0)) (v := u) hd hg hv (own_set (pin := false) ho' int_reps)) ⟨.inr rfl, (if_pos rfl).symm⟩ (Chg.set h hg)⟩
        · cases he
      · cases he
  · rename_i g1 b
    obtain ⟨v, rfl, hv⟩ : ∃ v, vs = [v] ∧ RV w g (.fn g1 [.rptr [.own b] 0]) v := by
      match vs, hr with
      | [v], hr => exact ⟨v, rfl, hr.1⟩
    cases hbq : Nat.beq g1 f1 with
    | false => rw [hbq] at he; cases he
    | true =>
      rw [hbq, cond_true] at he
      obtain rfl := Nat.eq_of_beq_eq_true hbq
      split at he
      · rename_i pin0 e1 t l hb0
        split at he
        · rename_i l0 hcl
          obtain ⟨e0, hq⟩ := castL_some hcl
          cases e0
          obtain rfl := eq_of_heq hq
          obtain ⟨hlen, he⟩ := chk_some he
          split at he
          · rename_i hd
            obtain ⟨cs, rfl, hcs⟩ := hv
            match cs, hcs with
            | [p], ⟨⟨k, bs, e2, hk, hkb, hbs, hp⟩, _⟩ =>
              match bs, hbs with
              | [u0], ⟨hu, _⟩ =>
                have hp : p = .pointer (some ⟨k, 0, none⟩) := hp
                subst hp
                have hu0 : u0 = g.val b := hu.2
                refine (hc k e2 u0 l0 w hkb (by rw [hu0]; exact ints_own h hb0) (of_decide_eq_true hlen)).mono ?_
                rintro e' w' ⟨u, rfl, ho, hb⟩
                have hg := below_grows hb
                have hsl : (sortI l0).length = l0.length := List.length_mergeSort (α := Int) (le := fun x y => decide (x ≤ y)) l0
                have ho' : w'.ownsRow X.B e (Ty.int .i64).sz u (sortI l0).length ((sortI l0).map (Value.int .i64 ·)) := by
                  rw [hsl]; exact owns_base ho h.base
                have hv : ∀ k, blkOf u = some k → w.heap.size ≤ k ∧ k < w'.heap.size := fun k hk => by
                  rcases ho.2 with ⟨rfl, _⟩ | ⟨gb, cap, cur, rfl, hbase, hgb, _⟩
                  · cases hk
                  · cases hk
                    exact ⟨hbase, (Array.getElem?_eq_some_iff.1 hgb).1⟩
                exact ⟨u, rfl, hN _ _ _ _ _ he (h.fresh (d := d) (x := .row false e (.int .i64) (sortI l0)) (v := u) hd hg hv (own_set (pin := false) ho' int_reps)) ⟨.inr rfl, (if_pos rfl).symm⟩ (Chg.set h hg)⟩
          · cases he
        · cases he
      · cases he
  · cases he
end
end Go.Proofs.YtabegablnfmolaaV
