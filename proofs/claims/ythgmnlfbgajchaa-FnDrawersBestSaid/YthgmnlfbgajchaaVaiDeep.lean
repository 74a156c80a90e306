/- Rows whose inner rows are their own: each step holds of the model's own run. Conditions: those that each theorem states. -/
/- A checked abstract run of Go functions: rows whose inner rows are their own. -/
import Derived.Test.YthgmnlfbgajchaaVaiVal
namespace Go.Proofs.YthgmnlfbgajchaaV
set_option linter.unusedVariables false
set_option linter.unusedSimpArgs false
section
variable {P : Program} {X : Cx} {s : St} {a : Act} {w : World} {g : Gh}
/-- A deep row, read: if no one writes its blocks. -/
theorem deep_rowAt {B : Nat} {w : World} {inn : List Nat → Option Value} {ok : Nat → Prop} : ∀ {t : Ty} {e : Nat} {l : List t.T} {p : List Nat} {v : Value}, DeepAt B w inn t e l p v → (∀ k, (blkOf v = some k ∨ ∃ q u, inn (p ++ q) = some u ∧ blkOf u = some k) → ok k) → RowAt (Rep w ok t) t.sz w ok l v := by
  intro t
  have flat : ∀ {t : Ty} {e : Nat} {l : List t.T} {v : Value}, t.flat = true → (∃ inner : List Value, w.ownsRow B e t.sz v l.length inner ∧ Reps w (fun _ => False) t l inner) → (∀ k, blkOf v = some k → ok k) → RowAt (Rep w ok t) t.sz w ok l v := by
    intro t e l v hf ⟨inner, ho, hr⟩ hk
    have ho' := ho
    obtain ⟨hlen, hv | ⟨k, cap, cur, hv, _, _, hcap, _⟩⟩ := ho'
    · have : l = [] := List.eq_nil_of_length_eq_zero hv.2
      subst this
      exact ⟨none, 0, hv.1, Nat.le_refl _, fun _ => rfl, .inl rfl⟩
    · refine ⟨some ⟨k, 0, none⟩, cap, hv, hcap, (fun e => by cases e), .inr ⟨_, rfl, hk k (by rw [hv]; rfl), fun j y hj => ?_⟩⟩
      have hr : Reps w ok t l inner := Reps.none hf hr
      refine ⟨_, (hr.get hj).len, hr.get hj, fun i u hu => ?_⟩
      rw [List.getElem?_take] at hu
      split at hu
      · rw [List.getElem?_drop] at hu
        exact ho.cells (g := k) (by rw [hv]; rfl) _ u hu
      · cases hu
  induction t with
  | slc e' t' ih =>
    intro e l p v hd hk
    obtain ⟨⟨inner, ho, hin⟩, _⟩ := hd
    have ho' := ho
    obtain ⟨hlen, hv | ⟨k, cap, cur, hv, _, _, hcap, _⟩⟩ := ho'
    · have : l = [] := List.eq_nil_of_length_eq_zero hv.2
      subst this
      exact ⟨none, 0, hv.1, Nat.le_refl _, fun _ => rfl, .inl rfl⟩
    · refine ⟨some ⟨k, 0, none⟩, cap, hv, hcap, (fun e => by cases e), .inr ⟨_, rfl, hk k (.inl (by rw [hv]; rfl)), fun j y hj => ?_⟩⟩
      obtain ⟨u, q1, q2, q3⟩ := hin j y hj
      refine ⟨[u], rfl, ⟨u, rfl, ih q3 fun k' h => hk k' ?_⟩, fun i z hz => ?_⟩
      · rcases h with h | ⟨q, u', e1, e2⟩
        · exact .inr ⟨[j], u, q2, h⟩
        · exact .inr ⟨j :: q, u', by rw [List.append_assoc] at e1; exact e1, e2⟩
      · cases i with
        | succ i => simp at hz
        | zero =>
          simp only [List.getElem?_cons_zero, Option.some.injEq] at hz
          subst hz
          rw [show j * (Ty.slc e' t').sz + 0 = j from by simp [Ty.sz]]
          exact ho.cells (g := k) (by rw [hv]; rfl) j u q1
  | int k => exact fun hd hk => flat hd.1 hd.2.1 (fun k h => hk k (.inl h))
  | bool => exact fun hd hk => flat hd.1 hd.2.1 (fun k h => hk k (.inl h))
  | str => exact fun hd hk => flat hd.1 hd.2.1 (fun k h => hk k (.inl h))
  | pr a b => exact fun hd hk => flat hd.1 hd.2.1 (fun k h => hk k (.inl h))
mutual
theorem RV.thaw {b : Nat} {r : AV} {F : List Int → AV} {g' : Gh} (m : Mv w g (· = b) w g') (hr : g.live b → RV w g' r (g.val b)) (hF : g.live b → ∀ p v, g.inn b (nats p) = some v → RV w g' (F p) v) :
    ∀ {a : AV} {v : Value}, RV w g a v → RV w g' (AV.thaw b r F a) v
  | .bad, _, _ => trivial
  | .undef, _, h => h
  | .int _ _, _, h => h
  | .bool _, _, h => h
  | .str _, _, h => h
  | .row _ t _, _, h => RowAt.move t.sz_pos (fun _ _ h => h.len) (fun _ _ h => Rep.move m.blk h) m.blk h
  | .own b', v, h => by
    unfold AV.thaw
    by_cases e : b' = b
    · subst e; rw [Nat.beq_refl, show v = _ from h.2]; exact hr h.1
    · rw [beq_ne e]
      exact ⟨(m.name b' e h.1).1, h.2.trans (m.name b' e h.1).2.1.symm⟩
  | .nilS, _, h => h
  | .agg _, _, ⟨cs, e, h⟩ => ⟨cs, e, RVs.thaw m hr hF h⟩
  | .tup _, _, ⟨cs, e, h⟩ => ⟨cs, e, RVs.thaw m hr hF h⟩
  | .ptr b' o, v, h => by
    unfold AV.thaw
    by_cases e : b' = b
    · subst e; rw [Nat.beq_refl]; trivial
    · rw [beq_ne e]
      obtain ⟨hl, k, h1, h2⟩ := h
      exact ⟨(m.name b' e hl).1, k, (m.name b' e hl).2.1.trans h1, h2⟩
  | .elt b' i sz o, v, h => by
    unfold AV.thaw
    by_cases e : b' = b
    · subst e; rw [Nat.beq_refl]; trivial
    · rw [beq_ne e]
      obtain ⟨hl, k, n, c, h1, h2⟩ := h
      exact ⟨(m.name b' e hl).1, k, n, c, (m.name b' e hl).2.1.trans h1, h2⟩
  | .relt _ t _ _ _, _, ⟨h0, h1, a, c, h, e⟩ => ⟨h0, h1, a, c, RowAt.move t.sz_pos (fun _ _ h => h.len) (fun _ _ h => Rep.move m.blk h) m.blk h, e⟩
  | .nilP, _, h => h
  | .nilI, _, h => h
  | .nxt _ _ _, _, h => h
  | .dp b' p, v, ⟨hl, h1⟩ => by
    unfold AV.thaw
    by_cases e : b' = b
    · subst e; rw [Nat.beq_refl]; exact hF hl p v h1
    · rw [beq_ne e]
      exact ⟨(m.name b' e hl).1, by rw [(m.name b' e hl).2.2]; exact h1⟩
  | .de b' p sz o, v, ⟨hl, q, i, k, n, c, h1, h2, h3⟩ => by
    unfold AV.thaw
    by_cases e : b' = b
    · subst e; rw [Nat.beq_refl]; trivial
    · rw [beq_ne e]
      exact ⟨(m.name b' e hl).1, q, i, k, n, c, h1, by rw [Gh.at_eq (m.name b' e hl).2.1 (m.name b' e hl).2.2]; exact h2, h3⟩
  | .rptr _ _, _, ⟨k, cs, e, h1, h2, h3, h4⟩ => ⟨k, cs, e, (m.blk k h1 (by
      rcases Nat.lt_or_ge k w.heap.size with h | h
      · exact h
      · rw [Array.getElem?_eq_none h] at h2; cases h2)).2, h2, RVs.thaw m hr hF h3, h4⟩
  | .fn _ _, _, ⟨cs, e, h⟩ => ⟨cs, e, RVs.thaw m hr hF h⟩
theorem RVs.thaw {b : Nat} {r : AV} {F : List Int → AV} {g' : Gh} (m : Mv w g (· = b) w g') (hr : g.live b → RV w g' r (g.val b)) (hF : g.live b → ∀ p v, g.inn b (nats p) = some v → RV w g' (F p) v) :
    ∀ {as : List AV} {vs : List Value}, RVs w g as vs → RVs w g' (AV.thaws b r F as) vs
  | [], [], _ => trivial
  | _ :: _, _ :: _, h => ⟨RV.thaw m hr hF h.1, RVs.thaw m hr hF h.2⟩
  | [], _ :: _, h => h.elim
  | _ :: _, [], h => h.elim
end
theorem get_thawEnv (b : Nat) (r : AV) (F : List Int → AV) (t : Nat) : ∀ x : List (Nat × AV), get (thawEnv b r F x) t = AV.thaw b r F (get x t)
  | [] => rfl
  | (k, v) :: x => by
    simp only [thawEnv, get]
    cases Nat.beq k t with
    | true => rfl
    | false => exact get_thawEnv b r F t x
theorem hget_thawHeap (b : Nat) (r : AV) (F : List Int → AV) (t : Nat) : ∀ x : List (Nat × Blk), hget (thawHeap b r F x) t = if t = b then none else (hget x t).map (Blk.thaw b r F)
  | [] => by simp [thawHeap, hget]
  | (k, v) :: x => by
    simp only [thawHeap]
    by_cases e : k = b
    · subst e
      rw [Nat.beq_refl]
      simp only [cond_true, hget_thawHeap k r F t x]
      by_cases h : t = k
      · simp [h]
      · rw [if_neg h, if_neg h]; simp only [hget]; rw [beq_ne (Ne.symm h)]; rfl
    · rw [beq_ne e]
      simp only [cond_false, hget]
      by_cases h : k = t
      · subst h; simp [e]
      · rw [beq_ne h]; exact hget_thawHeap b r F t x
theorem BlkRel.thaw {B : Nat} {g' : Gh} {b n : Nat} {x : Blk} {r : AV} {F : List Int → AV} (m : Mv w g (· = n) w g') (hr : g.live n → RV w g' r (g.val n)) (hF : g.live n → ∀ p v, g.inn n (nats p) = some v → RV w g' (F p) v) (hv : g'.val b = g.val b) (hi : g'.inn b = g.inn b) (h : BlkRel B w g b x) : BlkRel B w g' b (Blk.thaw n r F x) := by
  cases x with
  | row pin e t l =>
    obtain ⟨inner, h1, h3⟩ := h
    exact ⟨inner, by rw [hv]; exact h1, h3.move m.blk⟩
  | box pin cs =>
    obtain ⟨k, cells, e, e1, e2, e3, e4⟩ := h
    exact ⟨k, cells, e, by rw [hv]; exact e1, e2, e3, e4.thaw m hr hF⟩
  | deep e t l => exact h.deepMove hv hi (fun _ _ => rfl)
  | obj k x => show ObjAt B w (g'.val b) k x; rw [hv]; exact h
theorem Sim.thaw (h : Sim X s a w g) (b : Nat) (ok : Nat → Prop) (hok : ∀ k, g.ok k → ok k) (r : AV) (F : List Int → AV) (hnew : ∀ k, ok k → g.ok k ∨ (g.live b ∧ g.has b k ∧ X.B ≤ k)) (hr : g.live b → RV w (g.kill b ok) r (g.val b)) (hF : g.live b → ∀ p v, g.inn b (nats p) = some v → RV w (g.kill b ok) (F p) v) : Sim X (s.thaw b r F) a w (g.kill b ok) := by
  have m : Mv w g (· = b) w (g.kill b ok) := ⟨fun k hk _ => ⟨rfl, hok k hk⟩, fun n hn hl => ⟨⟨hl, hn⟩, rfl, rfl⟩⟩
  refine ⟨fun t => ?_, fun n => ?_, fun n x hx => ?_, fun n n' k hn hn' => h.disj n n' k hn.1 hn'.1, fun n k hn hk => ?_, fun n x hx hf => ?_, fun k hk => ?_, h.size, h.defers, h.kept, h.base, h.glob.move m.blk⟩
  · show RV w _ (get (thawEnv b r F s.env) t) _
    rw [get_thawEnv]; exact (h.env t).thaw m hr hF
  · show g.live n ∧ n ≠ b ↔ (hget (thawHeap b r F s.heap) n).isSome = true
    rw [hget_thawHeap, h.live n]
    by_cases e : n = b
    · simp [e]
    · simp [e]
  · change hget (thawHeap b r F s.heap) n = some x at hx
    rw [hget_thawHeap] at hx
    by_cases e : n = b
    · simp [e] at hx
    · rw [if_neg e] at hx
      cases hy : hget s.heap n with
      | none => rw [hy] at hx; cases hx
      | some y =>
        rw [hy] at hx
        simp only [Option.map_some, Option.some.injEq] at hx
        subst hx
        exact (h.blk n y hy).thaw m hr hF rfl rfl
  · obtain ⟨h1, h2, h3⟩ := h.own n k hn.1 hk
    refine ⟨h1, h2, fun ho => ?_⟩
    rcases hnew k ho with h4 | ⟨h4, h5, _⟩
    · exact h3 h4
    · exact hn.2 (h.disj n b k hn.1 h4 hk h5)
  · change hget (thawHeap b r F s.heap) n = some x at hx
    rw [hget_thawHeap] at hx
    by_cases e : n = b
    · simp [e] at hx
    · rw [if_neg e] at hx
      cases hy : hget s.heap n with
      | none => rw [hy] at hx; cases hx
      | some y =>
        rw [hy] at hx
        simp only [Option.map_some, Option.some.injEq] at hx
        subst hx
        exact h.flat n y hy (by cases y <;> exact hf)
  · rcases hnew k hk with h4 | ⟨h4, h5, h6⟩
    · exact h.ok k h4
    · exact ⟨(h.own b k h4 h5).1, fun hlt => absurd hlt (by omega)⟩
/-- A deep row's inner rows, read. -/
theorem innD_ok {B : Nat} {b : Nat} {e : Nat} {t : Ty} {l : List t.T} {g' : Gh} (hd : BlkRel B w g b (.deep e t l)) (hk : ∀ k, g.has b k → g'.ok k) {p : List Int} {v : Value} (hv : g.inn b (nats p) = some v) : RV w g' (innD t l p) v := by
  unfold innD
  split
  · rename_i e' t' y hr
    refine deep_rowAt (deep_row hd.1 hr (by rw [List.nil_append]; exact hv)) fun k h => hk k ?_
    rcases h with h | ⟨q, u, e1, e2⟩
    · exact .inr ⟨_, _, hv, h⟩
    · exact .inr ⟨_, u, e1, e2⟩
  · trivial
theorem DeepAt.mk_leaf {B : Nat} {w : World} {inn : List Nat → Option Value} {t : Ty} {e : Nat} {l : List t.T} {p : List Nat} {v : Value} {inner : List Value} (hf : t.flat = true) (ho : w.ownsRow B e t.sz v l.length inner) (hr : Reps w (fun _ => False) t l inner) (hi : ∀ i q, inn (p ++ i :: q) = none) : DeepAt B w inn t e l p v := by
  cases t <;> first | (cases hf; done) | exact ⟨hf, ⟨inner, ho, hr⟩, hi⟩
/-- A deep row under other places. -/
theorem DeepAt.rebase {B : Nat} {w : World} {inn inn' : List Nat → Option Value} {R : List Nat} : ∀ {t : Ty} {e : Nat} {l : List t.T} {p : List Nat} {v : Value}, (∀ i r, inn' (R ++ (p ++ i :: r)) = inn (p ++ i :: r)) → DeepAt B w inn t e l p v → DeepAt B w inn' t e l (R ++ p) v := by
  intro t
  induction t with
  | slc e' t' ih =>
    intro e l p v hi ⟨⟨inner, h1, h2⟩, h3⟩
    refine ⟨⟨inner, h1, fun i x hx => ?_⟩, fun i q hq => ?_⟩
    · obtain ⟨u, q1, q2, q3⟩ := h2 i x hx
      refine ⟨u, q1, ?_, ?_⟩
      · rw [List.append_assoc, hi i []]; exact q2
      · have := ih (p := p ++ [i]) (fun j r => by
          have := hi i (j :: r)
          rw [show p ++ [i] ++ j :: r = p ++ i :: j :: r by simp]; exact this) q3
        rw [← List.append_assoc] at this; exact this
    · rw [List.append_assoc, hi i q]; exact h3 i q hq
  | int k => intro e l p v hi ⟨h0, h1, h3⟩; exact ⟨h0, h1, fun i q => by rw [List.append_assoc, hi i q]; exact h3 i q⟩
  | bool => intro e l p v hi ⟨h0, h1, h3⟩; exact ⟨h0, h1, fun i q => by rw [List.append_assoc, hi i q]; exact h3 i q⟩
  | str => intro e l p v hi ⟨h0, h1, h3⟩; exact ⟨h0, h1, fun i q => by rw [List.append_assoc, hi i q]; exact h3 i q⟩
  | pr a b => intro e l p v hi ⟨h0, h1, h3⟩; exact ⟨h0, h1, fun i q => by rw [List.append_assoc, hi i q]; exact h3 i q⟩
/-- The places above and beside stay. -/
theorem DeepAt.same {B : Nat} {w w' : World} {inn inn' : List Nat → Option Value} {t : Ty} {e : Nat} {l : List t.T} {p : List Nat} {v : Value} (hi : ∀ i r, inn' (p ++ i :: r) = inn (p ++ i :: r)) (hk : ∀ k, (blkOf v = some k ∨ ∃ q u, inn (p ++ q) = some u ∧ blkOf u = some k) → w'.heap[k]? = w.heap[k]?) (h : DeepAt B w inn t e l p v) : DeepAt B w' inn' t e l p v := by
  have := DeepAt.rebase (R := []) (inn' := inn') (fun i r => by rw [List.nil_append]; exact hi i r) (h.move hk)
  rw [List.nil_append] at this; exact this
/-- A row of which one stretch of cells is written. -/
theorem ownsRow_put {B e sz n : Nat} {k c : Nat} {inner : List Value} {j of : Nat} {vs : List Value} (h : w.ownsRow B e sz (.slice (some ⟨k, 0, none⟩) n c) n inner) (hj : j < n) (hof : of + vs.length ≤ sz) : ∃ cur e0 : Array Value, w.heap[k]? = some (.cells cur e (0, 0)) ∧ j * sz + of + vs.length ≤ cur.size ∧
    e0 = (cur.toList.take (j * sz + of) ++ vs ++ cur.toList.drop (j * sz + of + vs.length)).toArray ∧ (w.setRow k e0).ownsRow B e sz (.slice (some ⟨k, 0, none⟩) n c) n (inner.take (j * sz) ++ ((inner.drop (j * sz)).take of ++ vs ++ ((inner.drop (j * sz)).take sz).drop (of + vs.length)) ++ inner.drop (j * sz + sz)) := by
  obtain ⟨hil, hv | ⟨k', cap, cur, hv, hB, hk, hcap, hmax, hcs, htake⟩⟩ := h
  · cases hv.1
  · cases hv
    have h8 : (j + 1) * sz ≤ n * sz := Nat.mul_le_mul_right sz hj
    have h9 : n * sz ≤ c * sz := Nat.mul_le_mul_right sz hcap
    rw [Nat.succ_mul] at h8
    refine ⟨cur, _, hk, by omega, rfl, ?_⟩
    have hcl : cur.toList.length = c * sz := by rw [Array.length_toList]; exact hcs
    have e1 : inner.take (j * sz) ++ ((inner.drop (j * sz)).take of ++ vs ++ ((inner.drop (j * sz)).take sz).drop (of + vs.length)) ++ inner.drop (j * sz + sz) = inner.take (j * sz + of) ++ vs ++ inner.drop (j * sz + of + vs.length) := by
      rw [List.take_add, List.drop_take, List.drop_drop]
      have : (inner.drop (j * sz + (of + vs.length))).take (sz - (of + vs.length)) ++ inner.drop (j * sz + sz) = inner.drop (j * sz + of + vs.length) := by
        rw [show inner.drop (j * sz + sz) = (inner.drop (j * sz + (of + vs.length))).drop (sz - (of + vs.length)) by rw [List.drop_drop]; congr 1; omega, List.take_append_drop, Nat.add_assoc]
      simp only [List.append_assoc]
      rw [this]
    rw [e1]
    refine ⟨?_, .inr ⟨k, c, _, rfl, hB, setRow_heap w k _ _ e (0, 0) hk, hcap, hmax, ?_, ?_⟩⟩
    · simp only [List.length_append, List.length_take, List.length_drop, hil]
      rw [Nat.min_eq_left (by omega)]
      omega
    · simp only [List.size_toArray, List.length_append, List.length_take, List.length_drop, hcl]
      rw [Nat.min_eq_left (by omega)]
      omega
    · rw [List.toList_toArray, ← htake, List.take_take, Nat.min_eq_left (by omega)]
      rw [List.drop_take]
      rw [List.take_append, List.take_of_length_le (by simp only [List.length_append, List.length_take, hcl]; rw [Nat.min_eq_left (by omega)]; omega)]
      congr 2
      simp only [List.length_append, List.length_take, hcl]
      rw [Nat.min_eq_left (by omega)]
/-- A row that may stand in a deep one. -/
theorem rowD_ok (h : Sim X s a w g) {e : Nat} {t : Ty} {b : Nat} {l : List t.T} (he : rowD s e t b = some l) : g.live b ∧ DeepAt X.B w (g.inn b) t e l [] (g.val b) ∧ DeepOk X.B (g.val b) (g.inn b) := by
  unfold rowD at he
  split at he
  · rename_i e' t' l' hb
    replace he := cond_some he
    obtain ⟨h0, he⟩ := he
    simp only [Bool.and_eq_true] at h0
    have h1 := Nat.eq_of_beq_eq_true h0.1
    subst h1
    split at he
    · rename_i ht
      subst ht
      cases he
      obtain ⟨inner, ho, hr⟩ := h.blk b _ hb
      have hi := h.flat b _ hb rfl
      exact ⟨(h.live b).2 (by rw [hb]; rfl), DeepAt.mk_leaf h0.2 ho (hr.none h0.2) (fun i q => hi _), ⟨hi _, fun q u k hq => (by rw [hi] at hq; cases hq), fun q q' u u' k hq => (by rw [hi] at hq; cases hq)⟩⟩
    · cases he
  · rename_i e' t' l' hb
    replace he := cond_some he
    obtain ⟨h0, he⟩ := he
    have h1 := Nat.eq_of_beq_eq_true h0
    subst h1
    split at he
    · rename_i ht
      subst ht
      cases he
      exact ⟨(h.live b).2 (by rw [hb]; rfl), h.blk b _ hb⟩
    · cases he
  · cases he
theorem deep_blk {B : Nat} {w' : World} {d : Nat} {v : Value} {inn : List Nat → Option Value} {e : Nat} {t : Ty} {l : List t.T} (h1 : DeepAt B w' inn t e l [] v) (h2 : DeepOk B v inn) : BlkRel B w' (g.set d v inn) d (.deep e t l) := by
  show DeepAt B w' ((g.set d v inn).inn d) t e l [] ((g.set d v inn).val d) ∧ DeepOk B ((g.set d v inn).val d) ((g.set d v inn).inn d)
  rw [show (g.set d v inn).inn d = inn from if_pos rfl, show (g.set d v inn).val d = v from if_pos rfl]
  exact ⟨h1, h2⟩
theorem BlkRel.inv {B : Nat} {w w' : World} {g g' : Gh} {b n : Nat} {x : Blk} (m : MvI w g n w' g') (hn : b ≠ n) (hl : g.live b) (hk : ∀ k, g.has b k → w'.heap[k]? = w.heap[k]?) (h : BlkRel B w g b x) : BlkRel B w' g' b (Blk.inv n x) := by
  have hv := (m.name b hl).2.1
  have hi := (m.name b hl).2.2 hn
  cases x with
  | row pin e t l =>
    obtain ⟨inner, h1, h3⟩ := h
    refine ⟨inner, ?_, h3.move m.blk⟩
    rw [hv]
    exact ownsRow_move (fun k h => hk k (.inl h)) h1
  | box pin cs =>
    obtain ⟨k, cells, e, e1, e2, e3, e4⟩ := h
    exact ⟨k, cells, e, by rw [hv]; exact e1, e2, by rw [hk k (.inl (by rw [e1]; rfl))]; exact e3, e4.inv m⟩
  | deep e t l => exact h.deepMove hv hi hk
  | obj k x => show ObjAt B w' (g'.val b) k x; rw [hv]; exact ObjAt.move (fun r hr => hk r (.inl hr)) h
theorem get_invEnv (b : Nat) (t : Nat) : ∀ x : List (Nat × AV), get (invEnv b x) t = AV.inv b (get x t)
  | [] => rfl
  | (k, v) :: x => by
    simp only [invEnv, get]
    cases Nat.beq k t with
    | true => rfl
    | false => exact get_invEnv b t x
theorem hget_invHeap (b t : Nat) : ∀ x : List (Nat × Blk), hget (invHeap b x) t = (hget x t).map (Blk.inv b)
  | [] => by simp [invHeap, hget]
  | (k, v) :: x => by
    simp only [invHeap, hget]
    cases Nat.beq k t with
    | true => rfl
    | false => exact hget_invHeap b t x
theorem upD_cons {t : Ty} {l : List t.T} {j i : Int} {r : List Int} {t' : Ty} {y : t'.T} {l2 : List t.T} (h : upD t l (j :: i :: r) t' y = some l2) : t.isSlc = true := by
  cases t <;> first | rfl | (simp [upD] at h)
/-- An element of one of a deep row's rows is another one now. -/
theorem deep_upd {B : Nat} {w w' : World} {inn inn' : List Nat → Option Value} {i : Int} {t' : Ty} {y0 y : t'.T} {k : Nat} {S : Value} (hS : blkOf S = some k) (hblk : ∀ k', k' ≠ k → w'.heap[k']? = w.heap[k']?) : ∀ {q0 : List Int} {t : Ty} {e : Nat} {l l2 : List t.T} {p : List Nat} {v : Value}, DeepAt B w inn t e l p v → upD t l (q0 ++ [i]) t' y = some l2 → rdD t l (q0 ++ [i]) = some ⟨t', y0⟩ →
    (match q0 with | [] => v = S | q => inn (p ++ nats q) = some S) →
    (∀ e' l', DeepAt B w inn t' e' l' (p ++ nats q0) S → l'.getD i.toNat t'.zero = y0 → DeepAt B w' inn' t' e' (l'.set i.toNat y) (p ++ nats q0) S) →
    (q0 ≠ [] → blkOf v ≠ some k) → (∀ r u, inn (p ++ r) = some u → blkOf u = some k → r = nats q0) →
    (∀ r, ¬ (p ++ (nats q0 ++ [i.toNat])) <+: r → inn' r = inn r) → DeepAt B w' inn' t e l2 p v
  | [], t, e, l, l2, p, v, hd, hu, hrd, hs, hnew, _, _, _ => by
    have e1 : upD t l [i] t' y = some l2 := hu
    have e2 : (if h : t' = t then some (l.set i.toNat (h ▸ y)) else none) = some l2 := by
      rw [← e1]; cases t <;> rfl
    split at e2
    · rename_i ht
      subst ht
      cases e2
      have hs : v = S := hs
      subst hs
      have := hnew e l (by rw [show nats [] = [] from rfl, List.append_nil]; exact hd) (by rw [List.nil_append, rdD_one] at hrd; cases hrd; rfl)
      rw [show nats [] = [] from rfl, List.append_nil] at this
      exact this
    · cases e2
  | j :: r, t, e, l, l2, p, v, hd, hu, hrd, hs, hnew, hv, hone, hinn => by
    obtain ⟨a1, r1, hr1⟩ : ∃ a1 r1, r ++ [i] = a1 :: r1 := by cases r <;> simp
    have hu' : upD t l (j :: a1 :: r1) t' y = some l2 := by rw [← hr1]; exact hu
    have hsl := upD_cons hu'
    cases t <;> first | (cases hsl; done) | skip
    rename_i e1 t1
    have hu2 : (match upD t1 (List.getD (α := List t1.T) l j.toNat []) (r ++ [i]) t' y with
      | some l' => some (List.set (α := List t1.T) l j.toNat l')
      | none => none) = some l2 := by rw [hr1]; exact hu'
    have hrd : rdD t1 (List.getD (α := List t1.T) l j.toNat []) (r ++ [i]) = some ⟨t', y0⟩ := by
      have : rdD (.slc e1 t1) l (j :: a1 :: r1) = some ⟨t', y0⟩ := by rw [← hr1]; exact hrd
      rw [hr1]; exact this
    clear hu hu' hr1
    split at hu2
    · rename_i l1 hl1
      cases hu2
      obtain ⟨⟨inner, h1, h2⟩, h3⟩ := hd
      have hs : inn (p ++ j.toNat :: nats r) = some S := hs
      have hlt : j.toNat < l.length := by
        rcases Nat.lt_or_ge j.toNat l.length with h | h
        · exact h
        · rw [h3 _ _ h] at hs; cases hs
      have hlt' : j.toNat < List.length (α := List t1.T) l := hlt
      rw [getD_lt (β := List t1.T) hlt'] at hl1 hrd
      have hvk := hv (by simp)
      have hlen : List.length (α := List t1.T) (List.set (α := List t1.T) l j.toNat l1) = List.length (α := List t1.T) l := List.length_set
      refine ⟨⟨inner, ?_, fun i' x hx => ?_⟩, fun i' q hq => ?_⟩
      · have := ownsRow_move (w' := w') (fun k' hk' => hblk k' fun e => hvk (by rw [← e]; exact hk')) h1
        exact (congrArg (fun n => w'.ownsRow B e 1 v n inner) hlen).mpr this
      · by_cases hij : i' = j.toNat
        · subst hij
          have hx : (List.set (α := List t1.T) l j.toNat l1)[j.toNat]? = some x := hx
          rw [List.getElem?_set_self hlt'] at hx
          cases hx
          obtain ⟨u, q1, q2, q3⟩ := h2 j.toNat _ (List.getElem?_eq_getElem hlt')
          refine ⟨u, q1, ?_, ?_⟩
          · rw [hinn _ fun hpre => ?_]
            · exact q2
            · have := hpre.length_le
              simp [nats] at this
          · refine deep_upd hS hblk q3 hl1 hrd ?_ ?_ ?_ ?_ ?_
            · cases r with
              | nil => rw [show nats [] = [] from rfl] at hs; rw [hs] at q2; cases q2; rfl
              | cons _ _ => show inn (p ++ [j.toNat] ++ nats _) = _; rw [List.append_assoc]; exact hs
            · intro e' l' hd'
              have := hnew e' l'
              rw [show p ++ nats (j :: r) = p ++ [j.toNat] ++ nats r by simp [nats]] at this
              exact this hd'
            · intro hr hb
              have := hone [j.toNat] u q2 hb
              rw [show nats (j :: r) = j.toNat :: nats r from rfl] at this
              simp only [List.cons.injEq, true_and] at this
              exact hr (by simpa [nats] using this.symm)
            · intro r' u' h4 h5
              rw [List.append_assoc] at h4
              have := hone (j.toNat :: r') u' h4 h5
              rw [show nats (j :: r) = j.toNat :: nats r from rfl] at this
              simpa using this
            · intro r' hr'
              refine hinn r' fun hpre => hr' ?_
              rw [show p ++ [j.toNat] ++ (nats r ++ [i.toNat]) = p ++ (nats (j :: r) ++ [i.toNat]) by simp [nats]]
              exact hpre
        · have hx : (@getElem? (List (List t1.T)) Nat (List t1.T) _ _ l i') = some x := (@List.getElem?_set_ne (List t1.T) l j.toNat i' (Ne.symm hij) l1).symm.trans hx
          obtain ⟨u, q1, q2, q3⟩ := h2 i' x hx
          have apart : ∀ q, ¬ (p ++ (nats (j :: r) ++ [i.toNat])) <+: p ++ i' :: q := fun q hpre => by
            rw [List.prefix_append_right_inj, show nats (j :: r) = j.toNat :: nats r from rfl, List.cons_append, List.cons_prefix_cons] at hpre
            exact hij hpre.1.symm
          refine ⟨u, q1, by rw [hinn _ (apart [])]; exact q2, q3.same (fun i2 r2 => ?_) fun k' hk' => hblk k' fun e => ?_⟩
          · rw [List.append_assoc]; exact hinn _ (apart (i2 :: r2))
          · subst e
            rcases hk' with hk' | ⟨q, u', h4, h5⟩
            · have := hone [i'] u q2 hk'
              rw [show nats (j :: r) = j.toNat :: nats r from rfl] at this
              simp only [List.cons.injEq] at this
              exact hij this.1
            · rw [List.append_assoc] at h4
              have := hone (i' :: q) u' h4 h5
              rw [show nats (j :: r) = j.toNat :: nats r from rfl] at this
              simp only [List.cons.injEq] at this
              exact hij this.1
      · have hq : List.length (α := List t1.T) l ≤ i' := Nat.le_trans (Nat.le_of_eq hlen.symm) hq
        rw [hinn _ fun hpre => ?_]
        · exact h3 i' q hq
        · rw [List.prefix_append_right_inj, show nats (j :: r) = j.toNat :: nats r from rfl, List.cons_append, List.cons_prefix_cons] at hpre
          omega
    · cases hu2
end
end Go.Proofs.YthgmnlfbgajchaaV
